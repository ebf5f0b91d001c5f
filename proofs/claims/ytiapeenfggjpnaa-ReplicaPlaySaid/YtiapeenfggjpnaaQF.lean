/- Replicated servers: the law ReplicaPlay, walked. -/
import Derived.Test.YtiapeenfggjpnaaQD
import Derived.Test.YtiapeenfggjpnaaPV
import Derived.Test.YtiapeenfggjpnaaRW
set_option linter.unusedVariables false
set_option linter.unusedSimpArgs false
namespace Go.Proofs.Ytiapeenfggjpnaa
open Go.RowKit
/-- a row of data -/
def ComT (ds : List (List UInt8)) (v : Value) (w : World) : Prop := ∃ A n c C, v = .slice A n c ∧ LAt sC 1 w w.heap.size A n C ∧ (∀ b ∈ C, BsAt w b) ∧ C.map (·.d) = ds
theorem ComT.more {ds : List (List UInt8)} {v : Value} {w w' : World} (h : ComT ds v w) (hb : Below w.heap.size w w') : ComT ds v w' := by
  obtain ⟨A, n, c, C, h0, h1, h2, h3⟩ := h
  exact ⟨A, n, c, C, h0, h1.more hb, fun b hx => (h2 b hx).more hb, h3⟩
theorem ComRes.row {w w' : World} {ds : List (List UInt8)} {e : Ending} (h : ComRes w w' ds e) : ∃ v, e = .returned v ∧ ComT ds v w' := by
  obtain ⟨A, n, c, C, h0, h1, -, -, h4, h5⟩ := h
  exact ⟨_, h0, A, n, c, C, rfl, h1, fun b hb => (h4 b hb).bs, h5⟩
theorem RCom.row {w' : World} {ds : List (List UInt8)} {e : Ending} (h : RCom w' ds e) : ∃ v, e = .returned v ∧ ComT ds v w' := by
  obtain ⟨A, n, c, C, h0, h1, h4, h5⟩ := h
  exact ⟨_, h0, A, n, c, C, rfl, h1, h4, h5⟩
/-- what call hands back beside two boxes -/
def PaT (g5 g7 : Nat) (r : Cv × Int × Int) (v : Value) (w : World) : Prop := ∃ k', v = .tuple #[clV k', .int .i64 r.2.1, .int .i64 r.2.2] ∧ CmAt w (fun b => b ≠ g5 ∧ b ≠ g7) k' ∧ k'.val = r.1
def PaA (g5 g7 : Nat) (r : Cv) (v : Value) (w : World) : Prop := ∃ k', v = clV k' ∧ CmAt w (fun b => b ≠ g5 ∧ b ≠ g7) k' ∧ k'.val = r
theorem PaT.more {g5 g7 : Nat} {r : Cv × Int × Int} {v : Value} {w w' : World} (h : PaT g5 g7 r v w) (hb : Below w.heap.size w w') : PaT g5 g7 r v w' := by
  obtain ⟨k', h0, h1, h2⟩ := h
  exact ⟨k', h0, h1.more hb, h2⟩
theorem PaA.more {g5 g7 : Nat} {r : Cv} {v : Value} {w w' : World} (h : PaA g5 g7 r v w) (hb : Below w.heap.size w w') : PaA g5 g7 r v w' := by
  obtain ⟨k', h0, h1, h2⟩ := h
  exact ⟨k', h0, h1.more hb, h2⟩
theorem qq_ne {g5 g7 g b : Nat} (hg : g = g5 ∨ g = g7) (hb : b ≠ g5 ∧ b ≠ g7) : some b ≠ some g := by
  intro e
  injection e with e
  rcases hg with rfl | rfl
  · exact hb.1 e
  · exact hb.2 e
theorem PaT.st {g5 g7 g : Nat} {r : Cv × Int × Int} {v : Value} {w w' : World} (h : PaT g5 g7 r v w) (hg : g = g5 ∨ g = g7) (hw : w.grownBy w' (some g)) : PaT g5 g7 r v w' := by
  obtain ⟨k', h0, h1, h2⟩ := h
  exact ⟨k', h0, h1.st hw (fun b hb => qq_ne hg hb), h2⟩
theorem PaA.st {g5 g7 g : Nat} {r : Cv} {v : Value} {w w' : World} (h : PaA g5 g7 r v w) (hg : g = g5 ∨ g = g7) (hw : w.grownBy w' (some g)) : PaA g5 g7 r v w' := by
  obtain ⟨k', h0, h1, h2⟩ := h
  exact ⟨k', h0, h1.st hw (fun b hb => qq_ne hg hb), h2⟩
/-- a box beside another one that is stored to -/
theorem StOk.far {w0 w w' : World} {M m g h : Nat} {C : List En} {k : Cm} (hs : StOk w0 M m g C k w) (hne : g ≠ h) (hk : CmAt w (fun b => b ≠ g ∧ b ≠ h) k) (hg : w.grownBy w' (some h)) (hb : w0.heap.size ≤ h) : StOk w0 M m g C k w' :=
  ⟨⟨hs.box.blk.grown hg (fun e => by injection e with e; exact hne e), (hk.st hg (fun b hb e => by injection e with e; exact hb.2 e)).imp (fun b hb => hb.1)⟩, hs.inv, hs.good, hs.len, hs.below.grown hg hs.below.size (fun g8 e8 => by injection e8 with e8; omega), hs.base⟩
theorem newR_zero {n : Int} (h : (newR n).2 = 0) : 1 ≤ n ∧ n ≤ 7 := by
  unfold newR at h
  split at h
  · cases h
  · omega
theorem newR_ok {n : Int} (h1 : 1 ≤ n) (h7 : n ≤ 7) : (newR n).1 = newC n := by
  unfold newR
  rw [if_neg (by omega)]
theorem newR_small (n : Int) : (newR n).1.servers.length ≤ 7 ∧ ∀ s ∈ (newR n).1.servers, s.log.length = 0 := by
  unfold newR
  split
  · exact ⟨Nat.zero_le _, fun s hs => by cases hs⟩
  · refine ⟨by show (List.replicate _ _).length ≤ 7; rw [List.length_replicate]; omega, fun s hs => ?_⟩
    rw [(List.mem_replicate.1 hs).2]
    rfl
/-- the two clusters of Play, each in its box -/
structure TwoOk (w0 : World) (M m g5 g7 : Nat) (C : List En) (a b : Cm) (w : World) : Prop where
  sa : StOk w0 M m g5 C a w
  sb : StOk w0 M m g7 C b w
  qa : CmAt w (fun b => b ≠ g5 ∧ b ≠ g7) a
  qb : CmAt w (fun b => b ≠ g5 ∧ b ≠ g7) b
  ab : a.val = b.val
  ne : g5 ≠ g7
theorem TwoOk.more {w0 w w' : World} {M m g5 g7 : Nat} {C : List En} {a b : Cm} (h : TwoOk w0 M m g5 g7 C a b w) (hq : Below w.heap.size w w') : TwoOk w0 M m g5 g7 C a b w' := ⟨h.sa.more hq, h.sb.more hq, h.qa.more hq, h.qb.more hq, h.ab, h.ne⟩
def F8a (g5 g7 n c j : Nat) (ad : Addr) (Xv Yv : Array Value) (r : Cv × Int × Int) : Tmp → Value → World → Prop
  | 1, v, _ => v = .slice (some ad) n c
  | 5, v, _ => v = .pointer (some ⟨g5, 0, none⟩)
  | 9, v, _ => v = .int .i64 (j : Int)
  | 10, v, _ => v = .int .i64 r.2.1
  | 42, v, w => PaT g5 g7 r v w
  | 43, v, _ => v = .agg Xv
  | 44, v, _ => v = .slice (some ad) n c
  | 45, v, _ => v = .int .i64 (j : Int)
  | 46, v, _ => v = .pointer (some (ad.add (j * 3)))
  | 47, v, _ => v = .agg Yv
  | 48, v, w => PaT g5 g7 r v w
  | 49, v, w => PaA g5 g7 r.1 v w
  | 50, v, _ => v = .int .i64 r.2.1
  | 51, v, _ => v = .int .i64 r.2.2
  | _, _, _ => True
theorem F8a_more {g5 g7 n c j : Nat} {ad : Addr} {Xv Yv : Array Value} {r : Cv × Int × Int} (d t : Tmp) (v : Value) (w w' : World) (hR : Rb w w') (hne : t ≠ d) (hc : ([] : List (Tmp × Tmp)).contains (d, t) = false) (h : F8a g5 g7 n c j ad Xv Yv r t v w) : F8a g5 g7 n c j ad Xv Yv r t v w' := by
  unfold F8a at *
  split at h <;> first | exact h | exact PaT.more h hR | exact fun hg => PaT.more (h hg) hR | exact PaA.more h hR | exact fun hg => PaA.more (h hg) hR
theorem F8a_lit (tm : Array Value) (hs : tm.size = 90) : tm = #[tm[0]?.getD undef, tm[1]?.getD undef, tm[2]?.getD undef, tm[3]?.getD undef, tm[4]?.getD undef, tm[5]?.getD undef, tm[6]?.getD undef, tm[7]?.getD undef, tm[8]?.getD undef, tm[9]?.getD undef, tm[10]?.getD undef, tm[11]?.getD undef, tm[12]?.getD undef, tm[13]?.getD undef, tm[14]?.getD undef, tm[15]?.getD undef, tm[16]?.getD undef, tm[17]?.getD undef, tm[18]?.getD undef, tm[19]?.getD undef, tm[20]?.getD undef, tm[21]?.getD undef, tm[22]?.getD undef, tm[23]?.getD undef, tm[24]?.getD undef, tm[25]?.getD undef, tm[26]?.getD undef, tm[27]?.getD undef, tm[28]?.getD undef, tm[29]?.getD undef, tm[30]?.getD undef, tm[31]?.getD undef, tm[32]?.getD undef, tm[33]?.getD undef, tm[34]?.getD undef, tm[35]?.getD undef, tm[36]?.getD undef, tm[37]?.getD undef, tm[38]?.getD undef, tm[39]?.getD undef, tm[40]?.getD undef, tm[41]?.getD undef, tm[42]?.getD undef, tm[43]?.getD undef, tm[44]?.getD undef, tm[45]?.getD undef, tm[46]?.getD undef, tm[47]?.getD undef, tm[48]?.getD undef, tm[49]?.getD undef, tm[50]?.getD undef, tm[51]?.getD undef, tm[52]?.getD undef, tm[53]?.getD undef, tm[54]?.getD undef, tm[55]?.getD undef, tm[56]?.getD undef, tm[57]?.getD undef, tm[58]?.getD undef, tm[59]?.getD undef, tm[60]?.getD undef, tm[61]?.getD undef, tm[62]?.getD undef, tm[63]?.getD undef, tm[64]?.getD undef, tm[65]?.getD undef, tm[66]?.getD undef, tm[67]?.getD undef, tm[68]?.getD undef, tm[69]?.getD undef, tm[70]?.getD undef, tm[71]?.getD undef, tm[72]?.getD undef, tm[73]?.getD undef, tm[74]?.getD undef, tm[75]?.getD undef, tm[76]?.getD undef, tm[77]?.getD undef, tm[78]?.getD undef, tm[79]?.getD undef, tm[80]?.getD undef, tm[81]?.getD undef, tm[82]?.getD undef, tm[83]?.getD undef, tm[84]?.getD undef, tm[85]?.getD undef, tm[86]?.getD undef, tm[87]?.getD undef, tm[88]?.getD undef, tm[89]?.getD undef] := lit_arr tm 90 hs
theorem F8a_st {g5 g7 n c j : Nat} {ad : Addr} {Xv Yv : Array Value} {r : Cv × Int × Int} (t : Tmp) (v : Value) (w w' : World) (hg : w.grownBy w' (some g5)) (h : F8a g5 g7 n c j ad Xv Yv r t v w) : F8a g5 g7 n c j ad Xv Yv r t v w' := by
  unfold F8a at *
  split at h <;> first | exact h | exact PaT.st h (.inl rfl) hg | exact PaA.st h (.inl rfl) hg
def F8b (g5 g7 n c j : Nat) (ad : Addr) (Xv Yv : Array Value) (r : Cv × Int × Int) : Tmp → Value → World → Prop
  | 1, v, _ => v = .slice (some ad) n c
  | 7, v, _ => v = .pointer (some ⟨g7, 0, none⟩)
  | 9, v, _ => v = .int .i64 (j : Int)
  | 11, v, _ => v = .int .i64 r.2.1
  | 52, v, w => PaT g5 g7 r v w
  | 53, v, _ => v = .agg Xv
  | 54, v, _ => v = .slice (some ad) n c
  | 55, v, _ => v = .int .i64 (j : Int)
  | 56, v, _ => v = .pointer (some (ad.add (j * 3)))
  | 57, v, _ => v = .agg Yv
  | 58, v, w => PaT g5 g7 r v w
  | 59, v, w => PaA g5 g7 r.1 v w
  | 60, v, _ => v = .int .i64 r.2.1
  | 61, v, _ => v = .int .i64 r.2.2
  | _, _, _ => True
theorem F8b_more {g5 g7 n c j : Nat} {ad : Addr} {Xv Yv : Array Value} {r : Cv × Int × Int} (d t : Tmp) (v : Value) (w w' : World) (hR : Rb w w') (hne : t ≠ d) (hc : ([] : List (Tmp × Tmp)).contains (d, t) = false) (h : F8b g5 g7 n c j ad Xv Yv r t v w) : F8b g5 g7 n c j ad Xv Yv r t v w' := by
  unfold F8b at *
  split at h <;> first | exact h | exact PaT.more h hR | exact fun hg => PaT.more (h hg) hR | exact PaA.more h hR | exact fun hg => PaA.more (h hg) hR
theorem F8b_lit (tm : Array Value) (hs : tm.size = 90) : tm = #[tm[0]?.getD undef, tm[1]?.getD undef, tm[2]?.getD undef, tm[3]?.getD undef, tm[4]?.getD undef, tm[5]?.getD undef, tm[6]?.getD undef, tm[7]?.getD undef, tm[8]?.getD undef, tm[9]?.getD undef, tm[10]?.getD undef, tm[11]?.getD undef, tm[12]?.getD undef, tm[13]?.getD undef, tm[14]?.getD undef, tm[15]?.getD undef, tm[16]?.getD undef, tm[17]?.getD undef, tm[18]?.getD undef, tm[19]?.getD undef, tm[20]?.getD undef, tm[21]?.getD undef, tm[22]?.getD undef, tm[23]?.getD undef, tm[24]?.getD undef, tm[25]?.getD undef, tm[26]?.getD undef, tm[27]?.getD undef, tm[28]?.getD undef, tm[29]?.getD undef, tm[30]?.getD undef, tm[31]?.getD undef, tm[32]?.getD undef, tm[33]?.getD undef, tm[34]?.getD undef, tm[35]?.getD undef, tm[36]?.getD undef, tm[37]?.getD undef, tm[38]?.getD undef, tm[39]?.getD undef, tm[40]?.getD undef, tm[41]?.getD undef, tm[42]?.getD undef, tm[43]?.getD undef, tm[44]?.getD undef, tm[45]?.getD undef, tm[46]?.getD undef, tm[47]?.getD undef, tm[48]?.getD undef, tm[49]?.getD undef, tm[50]?.getD undef, tm[51]?.getD undef, tm[52]?.getD undef, tm[53]?.getD undef, tm[54]?.getD undef, tm[55]?.getD undef, tm[56]?.getD undef, tm[57]?.getD undef, tm[58]?.getD undef, tm[59]?.getD undef, tm[60]?.getD undef, tm[61]?.getD undef, tm[62]?.getD undef, tm[63]?.getD undef, tm[64]?.getD undef, tm[65]?.getD undef, tm[66]?.getD undef, tm[67]?.getD undef, tm[68]?.getD undef, tm[69]?.getD undef, tm[70]?.getD undef, tm[71]?.getD undef, tm[72]?.getD undef, tm[73]?.getD undef, tm[74]?.getD undef, tm[75]?.getD undef, tm[76]?.getD undef, tm[77]?.getD undef, tm[78]?.getD undef, tm[79]?.getD undef, tm[80]?.getD undef, tm[81]?.getD undef, tm[82]?.getD undef, tm[83]?.getD undef, tm[84]?.getD undef, tm[85]?.getD undef, tm[86]?.getD undef, tm[87]?.getD undef, tm[88]?.getD undef, tm[89]?.getD undef] := lit_arr tm 90 hs
theorem F8b_st {g5 g7 n c j : Nat} {ad : Addr} {Xv Yv : Array Value} {r : Cv × Int × Int} (t : Tmp) (v : Value) (w w' : World) (hg : w.grownBy w' (some g7)) (h : F8b g5 g7 n c j ad Xv Yv r t v w) : F8b g5 g7 n c j ad Xv Yv r t v w' := by
  unfold F8b at *
  split at h <;> first | exact h | exact PaT.st h (.inr rfl) hg | exact PaA.st h (.inr rfl) hg
def F8c (g5 g7 : Nat) (Av Bv : Array Value) (ds : List (List UInt8)) : Tmp → Value → World → Prop
  | 4, v, _ => v = .bool true
  | 5, v, _ => v = .pointer (some ⟨g5, 0, none⟩)
  | 7, v, _ => v = .pointer (some ⟨g7, 0, none⟩)
  | 82, v, _ => v = .agg Av
  | 83, v, w => ComT ds v w
  | 84, v, _ => v = .agg Bv
  | 85, v, w => ComT ds v w
  | 86, v, _ => v = .bool true
  | 87, v, _ => v = .bool true
  | 88, v, _ => v = .bool true
  | 89, v, _ => v = .bool true
  | _, _, _ => True
theorem F8c_more {g5 g7 : Nat} {Av Bv : Array Value} {ds : List (List UInt8)} (d t : Tmp) (v : Value) (w w' : World) (hR : Rb w w') (hne : t ≠ d) (hc : ([] : List (Tmp × Tmp)).contains (d, t) = false) (h : F8c g5 g7 Av Bv ds t v w) : F8c g5 g7 Av Bv ds t v w' := by
  unfold F8c at *
  split at h <;> first | exact h | exact ComT.more h hR | exact fun hg => ComT.more (h hg) hR
theorem F8c_lit (tm : Array Value) (hs : tm.size = 90) : tm = #[tm[0]?.getD undef, tm[1]?.getD undef, tm[2]?.getD undef, tm[3]?.getD undef, tm[4]?.getD undef, tm[5]?.getD undef, tm[6]?.getD undef, tm[7]?.getD undef, tm[8]?.getD undef, tm[9]?.getD undef, tm[10]?.getD undef, tm[11]?.getD undef, tm[12]?.getD undef, tm[13]?.getD undef, tm[14]?.getD undef, tm[15]?.getD undef, tm[16]?.getD undef, tm[17]?.getD undef, tm[18]?.getD undef, tm[19]?.getD undef, tm[20]?.getD undef, tm[21]?.getD undef, tm[22]?.getD undef, tm[23]?.getD undef, tm[24]?.getD undef, tm[25]?.getD undef, tm[26]?.getD undef, tm[27]?.getD undef, tm[28]?.getD undef, tm[29]?.getD undef, tm[30]?.getD undef, tm[31]?.getD undef, tm[32]?.getD undef, tm[33]?.getD undef, tm[34]?.getD undef, tm[35]?.getD undef, tm[36]?.getD undef, tm[37]?.getD undef, tm[38]?.getD undef, tm[39]?.getD undef, tm[40]?.getD undef, tm[41]?.getD undef, tm[42]?.getD undef, tm[43]?.getD undef, tm[44]?.getD undef, tm[45]?.getD undef, tm[46]?.getD undef, tm[47]?.getD undef, tm[48]?.getD undef, tm[49]?.getD undef, tm[50]?.getD undef, tm[51]?.getD undef, tm[52]?.getD undef, tm[53]?.getD undef, tm[54]?.getD undef, tm[55]?.getD undef, tm[56]?.getD undef, tm[57]?.getD undef, tm[58]?.getD undef, tm[59]?.getD undef, tm[60]?.getD undef, tm[61]?.getD undef, tm[62]?.getD undef, tm[63]?.getD undef, tm[64]?.getD undef, tm[65]?.getD undef, tm[66]?.getD undef, tm[67]?.getD undef, tm[68]?.getD undef, tm[69]?.getD undef, tm[70]?.getD undef, tm[71]?.getD undef, tm[72]?.getD undef, tm[73]?.getD undef, tm[74]?.getD undef, tm[75]?.getD undef, tm[76]?.getD undef, tm[77]?.getD undef, tm[78]?.getD undef, tm[79]?.getD undef, tm[80]?.getD undef, tm[81]?.getD undef, tm[82]?.getD undef, tm[83]?.getD undef, tm[84]?.getD undef, tm[85]?.getD undef, tm[86]?.getD undef, tm[87]?.getD undef, tm[88]?.getD undef, tm[89]?.getD undef] := lit_arr tm 90 hs
set_option maxRecDepth 100000 in
set_option maxHeartbeats 8000000 in
theorem lawPlay (num : Int) (A : Option Addr) (n c : Nat) (ops : List Ox) (w : World) (hnw : (Lit.int .i64 num).wf = true) (h : LAt oC 3 w w.heap.size A n ops) (ho : ∀ x ∈ ops, OxAt w x) : Calls Try.prog 8 #[.int .i64 num, .slice A n c] w fun e w' => e = .returned (.bool true) ∧ Below w.heap.size w w' := by
  have hni := wf_i64' hnw
  clear hnw
  have hln : Hid (ops.length = n) := h.len
  replace h := Lib.hid h
  replace ho := Lib.hid ho
  obtain ⟨E, hE⟩ : ∃ E, E = (newR num).2 := ⟨_, rfl⟩
  replace hE := Lib.hid hE
  go_enter Try.func8, Try.ntmps8
  go_wp2_with fail
  refine (long_any A n c ops w h.out).mono ?_; rintro e w0 ⟨⟨b, rfl, hn120⟩, hq0⟩
  cases b with
  | true =>
    go_wp2_with fail
    refine (ex_any _).mono ?_; rintro e w5 ⟨rfl, hq⟩
    go_wp2_with fail
    go_ret
    exact ⟨rfl, hq0.trans (hq.mono (hq0).size)⟩
  | false =>
  have hn12 := hn120 rfl
  clear hn120
  have hq00 := Lib.hid hq0
  clear hq0
  go_wp2_with fail
  refine (new_any num w0).mono ?_; rintro e w1 ⟨⟨k0, rfl, hk1, hv1⟩, hq1⟩
  rw [← hE.out]
  obtain ⟨p1, v1, m1, A1, n1, c1, l1⟩ := k0
  simp only [clV]
  have hb1 : Hid (Below w.heap.size w w1) := hq00.out.trans (hq1.mono hq00.out.size)
  have hk1' := Lib.hid (hk1.imp (Q' := fun b => False ∨ w.heap.size ≤ b) (fun b hb => hb.elim (fun h => h.elim) (fun h => Or.inr (Nat.le_trans hq00.out.size h))))
  have hkl1 := Lib.hid hk1.lt
  replace hv1 := Lib.hid hv1
  clear hk1 hq1
  have hB5 := Lib.hid (Blk.new w1 24 #[Value.int .i64 p1, Value.int .i64 v1, Value.int .i64 m1, Value.slice A1 n1 c1])
  go_wp2_with fail
  refine (rnew_any num (w1.alloc (.cells #[Value.int .i64 p1, Value.int .i64 v1, Value.int .i64 m1, Value.slice A1 n1 c1] 24))).mono ?_; rintro e w2 ⟨⟨k0, rfl, hk2, hv2⟩, hq2⟩
  rw [← hE.out]
  obtain ⟨p2, v2, m2, A2, n2, c2, l2⟩ := k0
  simp only [clV]
  have hA1 := a1 w1 (.cells #[Value.int .i64 p1, Value.int .i64 v1, Value.int .i64 m1, Value.slice A1 n1 c1] 24)
  have hq12 : Below w1.heap.size w1 w2 := hA1.trans (hq2.mono (by simp))
  have hb2 : Hid (Below w.heap.size w w2) := hb1.out.trans (hq12.mono hb1.out.size)
  have hg57 : w1.heap.size < w2.heap.size := by have := hq2.size; simp at this; omega
  have hA2 := a1 w2 (.cells #[Value.int .i64 p2, Value.int .i64 v2, Value.int .i64 m2, Value.slice A2 n2 c2] 24)
  have hkl2 := hk2.lt
  have hqb : Hid (CmAt (w2.alloc (.cells #[Value.int .i64 p2, Value.int .i64 v2, Value.int .i64 m2, Value.slice A2 n2 c2] 24)) (fun b => b ≠ w1.heap.size ∧ b ≠ w2.heap.size) (⟨p2, v2, m2, A2, n2, c2, l2⟩ : Cm)) := (hkl2.imp (Q' := fun b => b ≠ w1.heap.size ∧ b ≠ w2.heap.size) (fun b hb => ⟨by rcases hb.1 with h1 | h1; exact h1.elim; simp at h1; omega, by have := hb.2; omega⟩)).more hA2
  have hqa : Hid (CmAt (w2.alloc (.cells #[Value.int .i64 p2, Value.int .i64 v2, Value.int .i64 m2, Value.slice A2 n2 c2] 24)) (fun b => b ≠ w1.heap.size ∧ b ≠ w2.heap.size) (⟨p1, v1, m1, A1, n1, c1, l1⟩ : Cm)) := (((hkl1.out).imp (Q' := fun b => b ≠ w1.heap.size ∧ b ≠ w2.heap.size) (fun b hb => ⟨by have := hb.2; omega, by have := hb.2; omega⟩)).more hq12).more hA2
  have hk2' := Lib.hid (hk2.imp (Q' := fun b => False ∨ w.heap.size ≤ b) (fun b hb => hb.elim (fun h => h.elim) (fun h => Or.inr (by have := hb1.out.size; simp at h; omega))))
  have hB5 := Lib.hid ((hB5.out.below hq2 hB5.out.lt).alloc (.cells #[Value.int .i64 p2, Value.int .i64 v2, Value.int .i64 m2, Value.slice A2 n2 c2] 24))
  have hB7 := Lib.hid (Blk.new w2 24 #[Value.int .i64 p2, Value.int .i64 v2, Value.int .i64 m2, Value.slice A2 n2 c2])
  have hb3 : Hid (Below w.heap.size w (w2.alloc (.cells #[Value.int .i64 p2, Value.int .i64 v2, Value.int .i64 m2, Value.slice A2 n2 c2] 24))) := hb2.out.alloc hb2.out.size _
  replace hv2 := Lib.hid hv2
  have hq12' := Lib.hid hq12
  have hg57' := Lib.hid hg57
  clear hq2 hk2 hkl1 hkl2 hA1 hA2 hq12 hg57
  have hns := newR_small num
  have hl1 : l1.length = n1 := hqa.out.at_.len
  have hs1 : n1 ≤ 1000 ∧ ∀ s ∈ l1, s.n ≤ 5000 := by
    rw [← hv1.out] at hns
    refine ⟨?_, fun s hs => ?_⟩
    · have h1 : (l1.map Sm.val).length ≤ 7 := hns.1
      rw [List.length_map] at h1
      omega
    · have h1 : (s.log.map Em.val).length = 0 := hns.2 s.val (List.mem_map_of_mem hs)
      have h2 : s.log.length = s.n := LogAt.len (hqa.out.els s hs)
      rw [List.length_map] at h1
      omega
  obtain ⟨k0, k1, k2, k3⟩ := cells4 ((w2.alloc (.cells #[Value.int .i64 p2, Value.int .i64 v2, Value.int .i64 m2, Value.slice A2 n2 c2] 24))) (w1.heap.size) (Value.int .i64 p1) (Value.int .i64 v1) (Value.int .i64 m1) (Value.slice A1 n1 c1) (hB5.out)
  obtain ⟨t0, t1, t2, t3⟩ := cells4 ((w2.alloc (.cells #[Value.int .i64 p2, Value.int .i64 v2, Value.int .i64 m2, Value.slice A2 n2 c2] 24))) (w2.heap.size) (Value.int .i64 p2) (Value.int .i64 v2) (Value.int .i64 m2) (Value.slice A2 n2 c2) (hB7.out)
  go_wp2_with fail
  refine (same_any (⟨p1, v1, m1, A1, n1, c1, l1⟩ : Cm) (⟨p2, v2, m2, A2, n2, c2, l2⟩ : Cm) (w2.alloc (.cells #[Value.int .i64 p2, Value.int .i64 v2, Value.int .i64 m2, Value.slice A2 n2 c2] 24)) hqa.out hqb.out (hv1.out.trans hv2.out.symm) hs1.2 hs1.1).mono ?_; rintro e wS ⟨rfl, hqS⟩
  have hbS : Hid (Below w.heap.size w wS) := hb3.out.trans (hqS.mono hb3.out.size)
  clear k0 k1 k2 k3 t0 t1 t2 t3 hns hl1 hs1
  by_cases hE0 : E ≠ 0
  · have hE1 : (E == 0) = false := by simpa using hE0
    go_wp2_with fail
    refine (ex_any _).mono ?_; rintro e w5 ⟨rfl, hq⟩
    go_wp2_with fail
    go_ret
    exact ⟨rfl, hbS.out.trans (hq.mono (hbS.out).size)⟩
  replace hE0 : E = 0 := by simpa using hE0
  subst hE0
  have hnr := newR_zero hE.out.symm
  obtain ⟨M, rfl⟩ : ∃ M : Nat, num = (M : Int) := ⟨num.toNat, by omega⟩
  have hM1 : 1 ≤ M := by omega
  have hM7 : M ≤ 7 := by omega
  have hok := newR_ok hnr.1 hnr.2
  have hvC1 : Cm.val (⟨p1, v1, m1, A1, n1, c1, l1⟩ : Cm) = newC M := hv1.out.trans hok
  have hvC2 : Cm.val (⟨p2, v2, m2, A2, n2, c2, l2⟩ : Cm) = newC M := hv2.out.trans hok
  have hSa0 : StOk w M 0 w1.heap.size [] (⟨p1, v1, m1, A1, n1, c1, l1⟩ : Cm) (w1.alloc (.cells #[Value.int .i64 p1, Value.int .i64 v1, Value.int .i64 m1, Value.slice A1 n1 c1] 24)) := StOk.new hM1 hM7 hb1.out hk1'.out hvC1
  have hSb : StOk w M 0 w2.heap.size [] (⟨p2, v2, m2, A2, n2, c2, l2⟩ : Cm) (w2.alloc (.cells #[Value.int .i64 p2, Value.int .i64 v2, Value.int .i64 m2, Value.slice A2 n2 c2] 24)) := StOk.new hM1 hM7 hb2.out hk2'.out hvC2
  have hSa : StOk w M 0 w1.heap.size [] (⟨p1, v1, m1, A1, n1, c1, l1⟩ : Cm) (w2.alloc (.cells #[Value.int .i64 p2, Value.int .i64 v2, Value.int .i64 m2, Value.slice A2 n2 c2] 24)) := ⟨⟨hB5.out, hqa.out.imp (fun b hb => hb.1)⟩, hSa0.inv, hSa0.good, hSa0.len, hb3.out, hb1.out.size⟩
  have hT0 : Hid (TwoOk w M 0 w1.heap.size w2.heap.size [] (⟨p1, v1, m1, A1, n1, c1, l1⟩ : Cm) (⟨p2, v2, m2, A2, n2, c2, l2⟩ : Cm) wS) := TwoOk.more ⟨hSa, hSb, hqa.out, hqb.out, hvC1.trans hvC2.symm, Nat.ne_of_lt hg57'.out⟩ hqS
  clear hSa0 hSb hSa hqa hqb hB5 hB7 hb3 hk1' hk2' hqS hbS hv1 hv2 hE hok hvC1 hvC2 hq12' hg57' hb1 hb2 hq00
  go_wp2_with fail
  obtain ⟨g5, hg5⟩ : ∃ g5, g5 = w1.heap.size := ⟨_, rfl⟩
  obtain ⟨g7, hg7⟩ : ∃ g7, g7 = w2.heap.size := ⟨_, rfl⟩
  rw [← hg5, ← hg7] at hT0
  rw [← hg5, ← hg7]
  clear hg5 hg7
  go_loopw [39] (fun i wr => ∃ (j : Nat) (C : List En) (a b : Cm), j ≤ n ∧ i = .int .i64 j ∧ Hid (TwoOk w M j g5 g7 C a b wr)) (fun i _ => n - (intOf i).toNat)
  case atStart => exact ⟨0, [], _, _, Nat.zero_le _, rfl, hT0.out⟩
  clear hT0
  case round =>
    obtain ⟨j, C, a, b, hjn, rfl, hT⟩ := hrel
    by_cases hlt : j < n
    · have hj0 : (0 : Int) ≤ j := by omega
      have hj1 : (j : Int) < n := by omega
      have hjl : j < ops.length := by have := hln.out; omega
      have hm120 : j ≤ 120 := by omega
      obtain ⟨ad, hA, -, -, -, -⟩ := ox_cells (h.out.below hT.out.sa.below (Nat.le_refl _)) hlt
      subst hA
      have hcello0 : Hid (∀ wz, Below w.heap.size w wz → wz.cell? (ad.add (j * 3)) = some (Value.int .i64 ops[j].kind) ∧ wz.cell? ⟨(ad.add (j * 3)).block, (ad.add (j * 3)).off + 1, none⟩ = some (Value.int .i64 ops[j].num) ∧ wz.cell? ⟨(ad.add (j * 3)).block, (ad.add (j * 3)).off + 2, none⟩ = some (Value.slice ops[j].A ops[j].n ops[j].c)) := fun wz hz => by
        obtain ⟨ad', hA', -, e0, e1, e2⟩ := ox_cells (h.out.below hz (Nat.le_refl _)) hlt
        injection hA' with hA'
        subst hA'
        exact ⟨e0, e1, e2⟩
      have hox : Hid (OxAt w ops[j]) := ho.out _ (List.getElem_mem hjl)
      generalize ops[j] = x at *
      obtain ⟨kind, onum, oA, on, oc, od⟩ := x
      obtain rfl : od.length = on := hox.out.1.1.len
      (try simp only at hcello0)
      obtain ⟨p3, v3, m3, A3, n3, c3, l3⟩ := a
      obtain ⟨p4, v4, m4, A4, n4, c4, l4⟩ := b
      obtain ⟨r, hr⟩ : ∃ r, r = callC (Cm.val (⟨p3, v3, m3, A3, n3, c3, l3⟩ : Cm)) (⟨kind, onum, od⟩ : Oc) := ⟨_, rfl⟩
      replace hr := Lib.hid hr
      have hg5lt : Hid (g5 < wr.heap.size) := hT.out.sa.box.blk.lt
      have hg7lt : Hid (g7 < wr.heap.size) := hT.out.sb.box.blk.lt
      have hSa : Hid (StOk w M j g5 C (⟨p3, v3, m3, A3, n3, c3, l3⟩ : Cm) wr) := hT.out.sa
      have hQa : Hid (CmAt wr (fun b => b ≠ g5 ∧ b ≠ g7) (⟨p3, v3, m3, A3, n3, c3, l3⟩ : Cm)) := hT.out.qa
      have hcell : Hid (∀ wz, Below wr.heap.size wr wz → wz.cell? ⟨g5, 0, none⟩ = some (Value.int .i64 p3) ∧ wz.cell? ⟨g5, 1, none⟩ = some (Value.int .i64 v3) ∧ wz.cell? ⟨g5, 2, none⟩ = some (Value.int .i64 m3) ∧ wz.cell? ⟨g5, 3, none⟩ = some (Value.slice A3 n3 c3)) := fun wz hz => by
        have q := hSa.out.box.blk.below hz hSa.out.box.blk.lt
        exact ⟨q.cell 0, q.cell 1, q.cell 2, q.cell 3⟩
      have hcellz : Hid (∀ wz, Below wr.heap.size wr wz → wz.cell? ⟨g5, 0, none⟩ = some (Value.int .i64 p3) ∧ wz.cell? ⟨g5, 1, none⟩ = some (Value.int .i64 v3) ∧ wz.cell? ⟨g5, 2, none⟩ = some (Value.int .i64 m3) ∧ wz.cell? ⟨g5, 3, none⟩ = some (Value.slice A3 n3 c3) ∧ wz.frozen? ⟨g5, 0, none⟩ = false ∧ wz.frozen? ⟨g5, 1, none⟩ = false ∧ wz.frozen? ⟨g5, 2, none⟩ = false ∧ wz.frozen? ⟨g5, 3, none⟩ = false) := fun wz hz => by
        have q := hSa.out.box.blk.below hz hSa.out.box.blk.lt
        exact ⟨q.cell 0, q.cell 1, q.cell 2, q.cell 3, q.frozen 0, q.frozen 1, q.frozen 2, q.frozen 3⟩
      have hcello : Hid (∀ wz, Below wr.heap.size wr wz → wz.cell? (ad.add (j * 3)) = some (Value.int .i64 kind) ∧ wz.cell? ⟨(ad.add (j * 3)).block, (ad.add (j * 3)).off + 1, none⟩ = some (Value.int .i64 onum) ∧ wz.cell? ⟨(ad.add (j * 3)).block, (ad.add (j * 3)).off + 2, none⟩ = some (Value.slice oA od.length oc)) := fun wz hz => hcello0.out wz (hSa.out.below.trans (hz.mono hSa.out.below.size))
      have hcl : Hid (∀ wz, Below wr.heap.size wr wz → Calls Try.prog 13 #[.agg #[Value.int .i64 p3, Value.int .i64 v3, Value.int .i64 m3, Value.slice A3 n3 c3], .agg #[Value.int .i64 kind, Value.int .i64 onum, Value.slice oA od.length oc]] wz fun e w' => (∃ v9, e = .returned v9 ∧ PaT g5 g7 r v9 w') ∧ Below wz.heap.size wz w') := fun wz hz => (call_any (⟨p3, v3, m3, A3, n3, c3, l3⟩ : Cm) ⟨kind, onum, oA, od.length, oc, od⟩ wz (hQa.out.more hz) (hSa.out.sm2 hm120) (hox.out.more (hSa.out.below.trans (hz.mono hSa.out.below.size))) hSa.out.hp1 hSa.out.hv hSa.out.hpu).mono (by
        rintro e w' ⟨⟨k', rfl, hk', hv'⟩, hq'⟩
        have h5 := hg5lt.out
        have h7 := hg7lt.out
        have hzs := hz.size
        rw [show callC (Cm.val (⟨p3, v3, m3, A3, n3, c3, l3⟩ : Cm)) (Ox.val ⟨kind, onum, oA, od.length, oc, od⟩) = r from hr.out.symm] at hv' ⊢
        exact ⟨⟨_, rfl, k', rfl, hk'.imp (fun b hb => hb.elim (fun h => h) (fun h => ⟨by omega, by omega⟩)), hv'⟩, hq'⟩)
      clear hSa hQa hg5lt hg7lt
      go_wp2_with fail
      refine RW.region [] [] 12 10 (F := fun _ => F8a g5 g7 n c j ad #[Value.int .i64 p3, Value.int .i64 v3, Value.int .i64 m3, Value.slice A3 n3 c3] #[Value.int .i64 kind, Value.int .i64 onum, Value.slice oA od.length oc] r) (W := fun ph wz => if ph = true then ∃ (w8 : World) (k' : Cm), Below wr.heap.size wr w8 ∧ wz = ((((w8.setCell ⟨g5, 0, none⟩ (Value.int .i64 k'.primary)).setCell ⟨g5, 1, none⟩ (Value.int .i64 k'.view)).setCell ⟨g5, 2, none⟩ (Value.int .i64 k'.commit)).setCell ⟨g5, 3, none⟩ (Value.slice k'.A k'.n k'.c)) ∧ CmAt w8 (fun b => b ≠ g5 ∧ b ≠ g7) k' ∧ k'.val = r.1 else Below wr.heap.size wr wz) (R := fun _ => Rb) rfl (fun _ => F8a_more) (by kernel_rfl) (by kernel_rfl) (by kernel_rfl) (by kernel_rfl) (by kernel_rfl) (by kernel_rfl) (by decide) rfl rfl ?_ ?_ ?_ ?_ ?_
      · show if false = true then _ else _
        rw [if_neg (by decide)]
        exact (Below.refl _ _).drew
      · intro t ht
        unfold F8a
        split <;> first | trivial | exact rfl | (exact absurd ht (by decide))
      · intro ph i o hi his hpa ho
        have hcs : i = 0 ∨ i = 1 ∨ i = 2 ∨ i = 3 ∨ i = 4 ∨ i = 5 ∨ i = 6 ∨ i = 7 ∨ i = 8 ∨ i = 9 ∨ i = 11 := by omega
        rcases hcs with rfl | rfl | rfl | rfl | rfl | rfl | rfl | rfl | rfl | rfl | rfl <;> (injection ho with ho; subst ho)
        · have hph : ph = false := by
            cases ph with
            | false => rfl
            | true => exact absurd ((show RW.ahead _ 10 0 = true by kernel_rfl).symm.trans (hpa rfl)) (by decide)
          subst hph
          intro a w2 hw0 _ hf K hK
          have hK' : ∀ d v w', _ = some d → F8a g5 g7 n c j ad #[Value.int .i64 p3, Value.int .i64 v3, Value.int .i64 m3, Value.slice A3 n3 c3] #[Value.int .i64 kind, Value.int .i64 onum, Value.slice oA od.length oc] r d v w' → (Below wr.heap.size wr w') → Rb w2 w' → _ → K (a.put (some d) v) w' := fun d v w' h1 h2 h3 h4 h5 => hK d v w' h1 h2 (by simpa using h3) h4 h5
          have hw : Below wr.heap.size wr w2 := by simpa using hw0
          have f0 := hf 5 rfl
          simp only [F8a] at f0
          clear hf
          obtain ⟨a0, a1, a2, a3⟩ := hcell.out w2 hw
          go_simp
          exact hK' _ _ _ rfl rfl hw (Below.refl _ _) (fun h => absurd h (by decide))
        · have hph : ph = false := by
            cases ph with
            | false => rfl
            | true => exact absurd ((show RW.ahead _ 10 1 = true by kernel_rfl).symm.trans (hpa rfl)) (by decide)
          subst hph
          intro a w2 hw0 _ hf K hK
          have hK' : ∀ d v w', _ = some d → F8a g5 g7 n c j ad #[Value.int .i64 p3, Value.int .i64 v3, Value.int .i64 m3, Value.slice A3 n3 c3] #[Value.int .i64 kind, Value.int .i64 onum, Value.slice oA od.length oc] r d v w' → (Below wr.heap.size wr w') → Rb w2 w' → _ → K (a.put (some d) v) w' := fun d v w' h1 h2 h3 h4 h5 => hK d v w' h1 h2 (by simpa using h3) h4 h5
          have hw : Below wr.heap.size wr w2 := by simpa using hw0
          have f0 := hf 1 rfl
          simp only [F8a] at f0
          clear hf
          go_simp
          exact hK' _ _ _ rfl rfl hw (Below.refl _ _) (fun h => absurd h (by decide))
        · have hph : ph = false := by
            cases ph with
            | false => rfl
            | true => exact absurd ((show RW.ahead _ 10 2 = true by kernel_rfl).symm.trans (hpa rfl)) (by decide)
          subst hph
          intro a w2 hw0 _ hf K hK
          have hK' : ∀ d v w', _ = some d → F8a g5 g7 n c j ad #[Value.int .i64 p3, Value.int .i64 v3, Value.int .i64 m3, Value.slice A3 n3 c3] #[Value.int .i64 kind, Value.int .i64 onum, Value.slice oA od.length oc] r d v w' → (Below wr.heap.size wr w') → Rb w2 w' → _ → K (a.put (some d) v) w' := fun d v w' h1 h2 h3 h4 h5 => hK d v w' h1 h2 (by simpa using h3) h4 h5
          have hw : Below wr.heap.size wr w2 := by simpa using hw0
          have f0 := hf 9 rfl
          simp only [F8a] at f0
          clear hf
          go_simp
          exact hK' _ _ _ rfl rfl hw (Below.refl _ _) (fun h => absurd h (by decide))
        · have hph : ph = false := by
            cases ph with
            | false => rfl
            | true => exact absurd ((show RW.ahead _ 10 3 = true by kernel_rfl).symm.trans (hpa rfl)) (by decide)
          subst hph
          intro a w2 hw0 _ hf K hK
          have hK' : ∀ d v w', _ = some d → F8a g5 g7 n c j ad #[Value.int .i64 p3, Value.int .i64 v3, Value.int .i64 m3, Value.slice A3 n3 c3] #[Value.int .i64 kind, Value.int .i64 onum, Value.slice oA od.length oc] r d v w' → (Below wr.heap.size wr w') → Rb w2 w' → _ → K (a.put (some d) v) w' := fun d v w' h1 h2 h3 h4 h5 => hK d v w' h1 h2 (by simpa using h3) h4 h5
          have hw : Below wr.heap.size wr w2 := by simpa using hw0
          have f0 := hf 44 rfl
          have f1 := hf 45 rfl
          simp only [F8a] at f0 f1
          clear hf
          go_simp
          exact hK' _ _ _ rfl rfl hw (Below.refl _ _) (fun h => absurd h (by decide))
        · have hph : ph = false := by
            cases ph with
            | false => rfl
            | true => exact absurd ((show RW.ahead _ 10 4 = true by kernel_rfl).symm.trans (hpa rfl)) (by decide)
          subst hph
          intro a w2 hw0 _ hf K hK
          have hK' : ∀ d v w', _ = some d → F8a g5 g7 n c j ad #[Value.int .i64 p3, Value.int .i64 v3, Value.int .i64 m3, Value.slice A3 n3 c3] #[Value.int .i64 kind, Value.int .i64 onum, Value.slice oA od.length oc] r d v w' → (Below wr.heap.size wr w') → Rb w2 w' → _ → K (a.put (some d) v) w' := fun d v w' h1 h2 h3 h4 h5 => hK d v w' h1 h2 (by simpa using h3) h4 h5
          have hw : Below wr.heap.size wr w2 := by simpa using hw0
          have f0 := hf 46 rfl
          simp only [F8a] at f0
          clear hf
          obtain ⟨o0, o1, o2⟩ := hcello.out w2 hw
          go_simp
          exact hK' _ _ _ rfl rfl hw (Below.refl _ _) (fun h => absurd h (by decide))
        · have hph : ph = false := by
            cases ph with
            | false => rfl
            | true => exact absurd ((show RW.ahead _ 10 5 = true by kernel_rfl).symm.trans (hpa rfl)) (by decide)
          subst hph
          intro a w2 hw0 _ hf K hK
          have hK' : ∀ d v w', _ = some d → F8a g5 g7 n c j ad #[Value.int .i64 p3, Value.int .i64 v3, Value.int .i64 m3, Value.slice A3 n3 c3] #[Value.int .i64 kind, Value.int .i64 onum, Value.slice oA od.length oc] r d v w' → (Below wr.heap.size wr w') → Rb w2 w' → _ → K (a.put (some d) v) w' := fun d v w' h1 h2 h3 h4 h5 => hK d v w' h1 h2 (by simpa using h3) h4 h5
          have hw : Below wr.heap.size wr w2 := by simpa using hw0
          have f0 := hf 43 rfl
          have f1 := hf 47 rfl
          simp only [F8a] at f0 f1
          clear hf
          go_simp
          refine (hcl.out w2 hw).mono ?_; rintro e w5 ⟨hP, hbq⟩
          obtain ⟨v9, rfl, hT⟩ := hP
          exact hK' _ _ _ rfl hT (hw.trans (hbq.mono hw.size)) hbq (fun h => absurd h (by decide))
        · have hph : ph = false := by
            cases ph with
            | false => rfl
            | true => exact absurd ((show RW.ahead _ 10 6 = true by kernel_rfl).symm.trans (hpa rfl)) (by decide)
          subst hph
          intro a w2 hw0 _ hf K hK
          have hK' : ∀ d v w', _ = some d → F8a g5 g7 n c j ad #[Value.int .i64 p3, Value.int .i64 v3, Value.int .i64 m3, Value.slice A3 n3 c3] #[Value.int .i64 kind, Value.int .i64 onum, Value.slice oA od.length oc] r d v w' → (Below wr.heap.size wr w') → Rb w2 w' → _ → K (a.put (some d) v) w' := fun d v w' h1 h2 h3 h4 h5 => hK d v w' h1 h2 (by simpa using h3) h4 h5
          have hw : Below wr.heap.size wr w2 := by simpa using hw0
          have f0 := hf 48 rfl
          simp only [F8a] at f0
          clear hf
          have hT := Lib.hid f0
          clear f0
          go_simp
          exact hK' _ _ _ rfl hT.out hw (Below.refl _ _) (fun h => absurd h (by decide))
        · have hph : ph = false := by
            cases ph with
            | false => rfl
            | true => exact absurd ((show RW.ahead _ 10 7 = true by kernel_rfl).symm.trans (hpa rfl)) (by decide)
          subst hph
          intro a w2 hw0 _ hf K hK
          have hK' : ∀ d v w', _ = some d → F8a g5 g7 n c j ad #[Value.int .i64 p3, Value.int .i64 v3, Value.int .i64 m3, Value.slice A3 n3 c3] #[Value.int .i64 kind, Value.int .i64 onum, Value.slice oA od.length oc] r d v w' → (Below wr.heap.size wr w') → Rb w2 w' → _ → K (a.put (some d) v) w' := fun d v w' h1 h2 h3 h4 h5 => hK d v w' h1 h2 (by simpa using h3) h4 h5
          have hw : Below wr.heap.size wr w2 := by simpa using hw0
          have f0 := hf 42 rfl
          simp only [F8a] at f0
          clear hf
          obtain ⟨k', hv, h1, h2⟩ := f0
          replace h1 := Lib.hid h1
          replace h2 := Lib.hid h2
          simp only [clV] at hv
          go_simp
          exact hK' _ _ _ rfl ⟨k', rfl, h1.out, h2.out⟩ hw (Below.refl _ _) (fun h => absurd h (by decide))
        · intro a w2 hw _ hf K hK
          have f0 := hf 42 rfl
          simp only [F8a] at f0
          clear hf
          obtain ⟨k', hv, h1, h2⟩ := f0
          replace h1 := Lib.hid h1
          replace h2 := Lib.hid h2
          simp only [clV] at hv
          go_simp
          exact hK _ _ _ rfl rfl hw (Below.refl _ _) (fun h => absurd h (by decide))
        · intro a w2 hw _ hf K hK
          have f0 := hf 42 rfl
          simp only [F8a] at f0
          clear hf
          obtain ⟨k', hv, h1, h2⟩ := f0
          replace h1 := Lib.hid h1
          replace h2 := Lib.hid h2
          simp only [clV] at hv
          go_simp
          exact hK _ _ _ rfl rfl hw (Below.refl _ _) (fun h => absurd h (by decide))
        · intro a w2 hw _ hf K hK
          have f0 := hf 50 rfl
          simp only [F8a] at f0
          clear hf
          go_simp
          exact hK _ _ _ rfl rfl hw (Below.refl _ _) (fun h => absurd h (by decide))
      · intro o ho a w2 hw0 hf K hK
        injection ho with ho
        subst ho
        have hw : Below wr.heap.size wr w2 := by simpa using hw0
        have f0 := hf 5 rfl
        have f1 := hf 49 rfl
        simp only [F8a] at f0 f1
        clear hf
        obtain ⟨k9, hl9, q1, q2⟩ := f1
        have q1 := Lib.hid q1
        have q2 := Lib.hid q2
        simp only [clV] at hl9
        obtain ⟨a0, a1, a2, a3, z0, z1, z2, z3⟩ := hcellz.out w2 hw
        have hg1 := Lib.hid (grown_set4 w2 g5 (Value.int .i64 k9.primary) (Value.int .i64 k9.view) (Value.int .i64 k9.commit) (Value.slice k9.A k9.n k9.c))
        go_simp
        exact hK undef _ (by show if true = true then _ else _; rw [if_pos rfl]; exact ⟨w2, k9, hw, rfl, q1.out, q2.out⟩) (fun t u hF => F8a_st t u w2 _ hg1.out hF)
      · intro a' w9 hd hs hw hout hf
        replace hw : ∃ (w8 : World) (k' : Cm), Below wr.heap.size wr w8 ∧ w9 = ((((w8.setCell ⟨g5, 0, none⟩ (Value.int .i64 k'.primary)).setCell ⟨g5, 1, none⟩ (Value.int .i64 k'.view)).setCell ⟨g5, 2, none⟩ (Value.int .i64 k'.commit)).setCell ⟨g5, 3, none⟩ (Value.slice k'.A k'.n k'.c)) ∧ CmAt w8 (fun b => b ≠ g5 ∧ b ≠ g7) k' ∧ k'.val = r.1 := by simpa using hw
        have h10 := hf 11 10 (by decide) rfl rfl
        simp only [F8a] at h10
        have h51 := hf 9 51 (by decide) rfl rfl
        simp only [F8a] at h51
        have e0 : _ = some (Value.int .i64 (M : Int)) := hout 0 rfl
        have e1 : _ = some (Value.slice (some ad) n c) := hout 1 rfl
        have e2 : _ = some (undef) := hout 2 rfl
        have e3 : _ = some (undef) := hout 3 rfl
        have e5 : _ = some (Value.pointer (some ⟨g5, 0, none⟩)) := hout 5 rfl
        have e7 : _ = some (Value.pointer (some ⟨g7, 0, none⟩)) := hout 7 rfl
        have e9 : _ = some (Value.int .i64 (j : Int)) := hout 9 rfl
        have e12 : _ = some (Value.slice (some ad) n c) := hout 12 rfl
        have e13 : _ = some (Value.bool false) := hout 13 rfl
        have e14 : _ = some (undef) := hout 14 rfl
        have e15 : _ = some (Value.tuple #[Value.agg #[Value.int .i64 p1, Value.int .i64 v1, Value.int .i64 m1, Value.slice A1 n1 c1], Value.int .i64 0]) := hout 15 rfl
        have e16 : _ = some (Value.int .i64 (M : Int)) := hout 16 rfl
        have e17 : _ = some (Value.tuple #[Value.agg #[Value.int .i64 p1, Value.int .i64 v1, Value.int .i64 m1, Value.slice A1 n1 c1], Value.int .i64 0]) := hout 17 rfl
        have e18 : _ = some (Value.agg #[Value.int .i64 p1, Value.int .i64 v1, Value.int .i64 m1, Value.slice A1 n1 c1]) := hout 18 rfl
        have e19 : _ = some (Value.int .i64 0) := hout 19 rfl
        have e20 : _ = some (Value.tuple #[Value.agg #[Value.int .i64 p2, Value.int .i64 v2, Value.int .i64 m2, Value.slice A2 n2 c2], Value.int .i64 0]) := hout 20 rfl
        have e21 : _ = some (Value.int .i64 (M : Int)) := hout 21 rfl
        have e22 : _ = some (Value.tuple #[Value.agg #[Value.int .i64 p2, Value.int .i64 v2, Value.int .i64 m2, Value.slice A2 n2 c2], Value.int .i64 0]) := hout 22 rfl
        have e23 : _ = some (Value.agg #[Value.int .i64 p2, Value.int .i64 v2, Value.int .i64 m2, Value.slice A2 n2 c2]) := hout 23 rfl
        have e24 : _ = some (Value.int .i64 0) := hout 24 rfl
        have e25 : _ = some (Value.int .i64 0) := hout 25 rfl
        have e26 : _ = some (Value.int .i64 0) := hout 26 rfl
        have e27 : _ = some (Value.bool false) := hout 27 rfl
        have e28 : _ = some (Value.bool false) := hout 28 rfl
        have e29 : _ = some (Value.agg #[Value.int .i64 p1, Value.int .i64 v1, Value.int .i64 m1, Value.slice A1 n1 c1]) := hout 29 rfl
        have e30 : _ = some (Value.agg #[Value.int .i64 p2, Value.int .i64 v2, Value.int .i64 m2, Value.slice A2 n2 c2]) := hout 30 rfl
        have e31 : _ = some (Value.bool true) := hout 31 rfl
        have e32 : _ = some (Value.bool false) := hout 32 rfl
        have e33 : _ = some (Value.bool false) := hout 33 rfl
        have e34 : _ = some (Value.int .i64 0) := hout 34 rfl
        have e35 : _ = some (Value.bool false) := hout 35 rfl
        have e36 : _ = some (undef) := hout 36 rfl
        have e37 : _ = some (Value.slice (some ad) n c) := hout 37 rfl
        have e38 : _ = some (Value.int .i64 (n : Int)) := hout 38 rfl
        have e39 : _ = some (Value.int .i64 (j : Int)) := hout 39 rfl
        have e40 : _ = some (Value.bool true) := hout 40 rfl
        have e41 : _ = some (Value.int .i64 (j : Int)) := hout 41 rfl
        have e82 : _ = some (undef) := hout 82 rfl
        have e83 : _ = some (undef) := hout 83 rfl
        have e84 : _ = some (undef) := hout 84 rfl
        have e85 : _ = some (undef) := hout 85 rfl
        have e86 : _ = some (undef) := hout 86 rfl
        have e87 : _ = some (undef) := hout 87 rfl
        have e88 : _ = some (undef) := hout 88 rfl
        have e89 : _ = some (undef) := hout 89 rfl
        obtain ⟨tm, df⟩ := a'
        simp only at hd hs h10 h51 e0 e1 e2 e3 e5 e7 e9 e12 e13 e14 e15 e16 e17 e18 e19 e20 e21 e22 e23 e24 e25 e26 e27 e28 e29 e30 e31 e32 e33 e34 e35 e36 e37 e38 e39 e40 e41 e82 e83 e84 e85 e86 e87 e88 e89
        have e := F8a_lit tm hs
        simp only [h10, h51, e0, e1, e2, e3, e5, e7, e9, e12, e13, e14, e15, e16, e17, e18, e19, e20, e21, e22, e23, e24, e25, e26, e27, e28, e29, e30, e31, e32, e33, e34, e35, e36, e37, e38, e39, e40, e41, e82, e83, e84, e85, e86, e87, e88, e89, Option.getD_some] at e
        clear hf hout hs
        rw [e, hd]
        clear e hd h10 h51 e0 e1 e2 e3 e5 e7 e9 e12 e13 e14 e15 e16 e17 e18 e19 e20 e21 e22 e23 e24 e25 e26 e27 e28 e29 e30 e31 e32 e33 e34 e35 e36 e37 e38 e39 e40 e41 e82 e83 e84 e85 e86 e87 e88 e89
        generalize tm[4]?.getD undef = u4x, tm[6]?.getD undef = u6x, tm[8]?.getD undef = u8x, tm[11]?.getD undef = u11x, tm[42]?.getD undef = u42x, tm[43]?.getD undef = u43x, tm[44]?.getD undef = u44x, tm[45]?.getD undef = u45x, tm[46]?.getD undef = u46x, tm[47]?.getD undef = u47x, tm[48]?.getD undef = u48x, tm[49]?.getD undef = u49x, tm[50]?.getD undef = u50x, tm[52]?.getD undef = u52x, tm[53]?.getD undef = u53x, tm[54]?.getD undef = u54x, tm[55]?.getD undef = u55x, tm[56]?.getD undef = u56x, tm[57]?.getD undef = u57x, tm[58]?.getD undef = u58x, tm[59]?.getD undef = u59x, tm[60]?.getD undef = u60x, tm[61]?.getD undef = u61x, tm[62]?.getD undef = u62x, tm[63]?.getD undef = u63x, tm[64]?.getD undef = u64x, tm[65]?.getD undef = u65x, tm[66]?.getD undef = u66x, tm[67]?.getD undef = u67x, tm[68]?.getD undef = u68x, tm[69]?.getD undef = u69x, tm[70]?.getD undef = u70x, tm[71]?.getD undef = u71x, tm[72]?.getD undef = u72x, tm[73]?.getD undef = u73x, tm[74]?.getD undef = u74x, tm[75]?.getD undef = u75x, tm[76]?.getD undef = u76x, tm[77]?.getD undef = u77x, tm[78]?.getD undef = u78x, tm[79]?.getD undef = u79x, tm[80]?.getD undef = u80x, tm[81]?.getD undef = u81x
        obtain ⟨w8, k', hw, hws, hk', hv'⟩ := hw
        subst hws
        obtain ⟨p8, v8, m8, A8, n8, c8, l8⟩ := k'
        obtain ⟨C', hpre, hi, -⟩ := call_inv hT.out.sa.inv (⟨kind, onum, od⟩ : Oc)
        have hcf := call_from hT.out.sa.inv (⟨kind, onum, od⟩ : Oc)
        rw [show callC (Cm.val (⟨p3, v3, m3, A3, n3, c3, l3⟩ : Cm)) (⟨kind, onum, od⟩ : Oc) = r from hr.out.symm] at hcf hi
        have hS8 : Hid (StOk w M (j + 1) g5 C' (⟨p8, v8, m8, A8, n8, c8, l8⟩ : Cm) ((((w8.setCell ⟨g5, 0, none⟩ (Value.int .i64 p8)).setCell ⟨g5, 1, none⟩ (Value.int .i64 v8)).setCell ⟨g5, 2, none⟩ (Value.int .i64 m8)).setCell ⟨g5, 3, none⟩ (Value.slice A8 n8 c8))) := StOk.next hT.out.sa hw (hk'.imp (fun b hb => Or.inl hb.1)) hv' hi hcf
        have hg8 := grown_set4 w8 g5 (Value.int .i64 p8) (Value.int .i64 v8) (Value.int .i64 m8) (Value.slice A8 n8 c8)
        have hQ8 : Hid (CmAt ((((w8.setCell ⟨g5, 0, none⟩ (Value.int .i64 p8)).setCell ⟨g5, 1, none⟩ (Value.int .i64 v8)).setCell ⟨g5, 2, none⟩ (Value.int .i64 m8)).setCell ⟨g5, 3, none⟩ (Value.slice A8 n8 c8)) (fun b => b ≠ g5 ∧ b ≠ g7) (⟨p8, v8, m8, A8, n8, c8, l8⟩ : Cm)) := hk'.st hg8 (fun b hb => qq_ne (.inl rfl) hb)
        have hQb := (hT.out.qb.more hw).st hg8 (fun b hb => qq_ne (.inl rfl) hb)
        have hSb : Hid (StOk w M j g7 C (⟨p4, v4, m4, A4, n4, c4, l4⟩ : Cm) ((((w8.setCell ⟨g5, 0, none⟩ (Value.int .i64 p8)).setCell ⟨g5, 1, none⟩ (Value.int .i64 v8)).setCell ⟨g5, 2, none⟩ (Value.int .i64 m8)).setCell ⟨g5, 3, none⟩ (Value.slice A8 n8 c8))) := StOk.far (hT.out.sb.more hw) hT.out.ne.symm ((hT.out.qb.more hw).imp (fun b hb => ⟨hb.2, hb.1⟩)) hg8 hT.out.sa.base
        have hab : Hid ((Cm.val (⟨p3, v3, m3, A3, n3, c3, l3⟩ : Cm)) = (Cm.val (⟨p4, v4, m4, A4, n4, c4, l4⟩ : Cm))) := hT.out.ab
        have hne : Hid (g5 ≠ g7) := hT.out.ne
        have hg5lt : Hid (g5 < ((((w8.setCell ⟨g5, 0, none⟩ (Value.int .i64 p8)).setCell ⟨g5, 1, none⟩ (Value.int .i64 v8)).setCell ⟨g5, 2, none⟩ (Value.int .i64 m8)).setCell ⟨g5, 3, none⟩ (Value.slice A8 n8 c8)).heap.size) := hS8.out.box.blk.lt
        have hg7lt : Hid (g7 < ((((w8.setCell ⟨g5, 0, none⟩ (Value.int .i64 p8)).setCell ⟨g5, 1, none⟩ (Value.int .i64 v8)).setCell ⟨g5, 2, none⟩ (Value.int .i64 m8)).setCell ⟨g5, 3, none⟩ (Value.slice A8 n8 c8)).heap.size) := hSb.out.box.blk.lt
        replace hQb := Lib.hid hQb
        have hv8 := Lib.hid hv'
        replace hi := Lib.hid hi
        replace hcf := Lib.hid hcf
        clear hk' hv' hw hcell hcellz hcl hcello hpre hg8 hT
        try simp only
        generalize ((((w8.setCell ⟨g5, 0, none⟩ (Value.int .i64 p8)).setCell ⟨g5, 1, none⟩ (Value.int .i64 v8)).setCell ⟨g5, 2, none⟩ (Value.int .i64 m8)).setCell ⟨g5, 3, none⟩ (Value.slice A8 n8 c8)) = wc at *
        have hcell : Hid (∀ wz, Below wc.heap.size wc wz → wz.cell? ⟨g7, 0, none⟩ = some (Value.int .i64 p4) ∧ wz.cell? ⟨g7, 1, none⟩ = some (Value.int .i64 v4) ∧ wz.cell? ⟨g7, 2, none⟩ = some (Value.int .i64 m4) ∧ wz.cell? ⟨g7, 3, none⟩ = some (Value.slice A4 n4 c4)) := fun wz hz => by
          have q := hSb.out.box.blk.below hz hSb.out.box.blk.lt
          exact ⟨q.cell 0, q.cell 1, q.cell 2, q.cell 3⟩
        have hcellz : Hid (∀ wz, Below wc.heap.size wc wz → wz.cell? ⟨g7, 0, none⟩ = some (Value.int .i64 p4) ∧ wz.cell? ⟨g7, 1, none⟩ = some (Value.int .i64 v4) ∧ wz.cell? ⟨g7, 2, none⟩ = some (Value.int .i64 m4) ∧ wz.cell? ⟨g7, 3, none⟩ = some (Value.slice A4 n4 c4) ∧ wz.frozen? ⟨g7, 0, none⟩ = false ∧ wz.frozen? ⟨g7, 1, none⟩ = false ∧ wz.frozen? ⟨g7, 2, none⟩ = false ∧ wz.frozen? ⟨g7, 3, none⟩ = false) := fun wz hz => by
          have q := hSb.out.box.blk.below hz hSb.out.box.blk.lt
          exact ⟨q.cell 0, q.cell 1, q.cell 2, q.cell 3, q.frozen 0, q.frozen 1, q.frozen 2, q.frozen 3⟩
        have hcello : Hid (∀ wz, Below wc.heap.size wc wz → wz.cell? (ad.add (j * 3)) = some (Value.int .i64 kind) ∧ wz.cell? ⟨(ad.add (j * 3)).block, (ad.add (j * 3)).off + 1, none⟩ = some (Value.int .i64 onum) ∧ wz.cell? ⟨(ad.add (j * 3)).block, (ad.add (j * 3)).off + 2, none⟩ = some (Value.slice oA od.length oc)) := fun wz hz => hcello0.out wz (hSb.out.below.trans (hz.mono hSb.out.below.size))
        have hcl : Hid (∀ wz, Below wc.heap.size wc wz → Calls Try.prog 14 #[.agg #[Value.int .i64 p4, Value.int .i64 v4, Value.int .i64 m4, Value.slice A4 n4 c4], .agg #[Value.int .i64 kind, Value.int .i64 onum, Value.slice oA od.length oc]] wz fun e w' => (∃ v9, e = .returned v9 ∧ PaT g5 g7 r v9 w') ∧ Below wz.heap.size wz w') := fun wz hz => (want_any (⟨p4, v4, m4, A4, n4, c4, l4⟩ : Cm) ⟨kind, onum, oA, od.length, oc, od⟩ wz (hQb.out.more hz) (hSb.out.sm2 hm120) (hox.out.more (hSb.out.below.trans (hz.mono hSb.out.below.size))) hSb.out.hp1 hSb.out.hv hSb.out.hpu).mono (by
          rintro e w' ⟨⟨k', rfl, hk', hv'⟩, hq'⟩
          have h5 := hg5lt.out
          have h7 := hg7lt.out
          have hzs := hz.size
          rw [show callC (Cm.val (⟨p4, v4, m4, A4, n4, c4, l4⟩ : Cm)) (Ox.val ⟨kind, onum, oA, od.length, oc, od⟩) = r from (by have e := hr.out; have e2 := hab.out; rw [e, e2]; rfl)] at hv' ⊢
          exact ⟨⟨_, rfl, k', rfl, hk'.imp (fun b hb => hb.elim (fun h => h) (fun h => ⟨by omega, by omega⟩)), hv'⟩, hq'⟩)
        go_wp2_with fail
        refine RW.region [] [] 12 10 (F := fun _ => F8b g5 g7 n c j ad #[Value.int .i64 p4, Value.int .i64 v4, Value.int .i64 m4, Value.slice A4 n4 c4] #[Value.int .i64 kind, Value.int .i64 onum, Value.slice oA od.length oc] r) (W := fun ph wz => if ph = true then ∃ (w8 : World) (k' : Cm), Below wc.heap.size wc w8 ∧ wz = ((((w8.setCell ⟨g7, 0, none⟩ (Value.int .i64 k'.primary)).setCell ⟨g7, 1, none⟩ (Value.int .i64 k'.view)).setCell ⟨g7, 2, none⟩ (Value.int .i64 k'.commit)).setCell ⟨g7, 3, none⟩ (Value.slice k'.A k'.n k'.c)) ∧ CmAt w8 (fun b => b ≠ g5 ∧ b ≠ g7) k' ∧ k'.val = r.1 else Below wc.heap.size wc wz) (R := fun _ => Rb) rfl (fun _ => F8b_more) (by kernel_rfl) (by kernel_rfl) (by kernel_rfl) (by kernel_rfl) (by kernel_rfl) (by kernel_rfl) (by decide) rfl rfl ?_ ?_ ?_ ?_ ?_
        · show if false = true then _ else _
          rw [if_neg (by decide)]
          exact (Below.refl _ _).drew
        · intro t ht
          unfold F8b
          split <;> first | trivial | exact rfl | (exact absurd ht (by decide))
        · intro ph i o hi his hpa ho
          have hcs : i = 0 ∨ i = 1 ∨ i = 2 ∨ i = 3 ∨ i = 4 ∨ i = 5 ∨ i = 6 ∨ i = 7 ∨ i = 8 ∨ i = 9 ∨ i = 11 := by omega
          rcases hcs with rfl | rfl | rfl | rfl | rfl | rfl | rfl | rfl | rfl | rfl | rfl <;> (injection ho with ho; subst ho)
          · have hph : ph = false := by
              cases ph with
              | false => rfl
              | true => exact absurd ((show RW.ahead _ 10 0 = true by kernel_rfl).symm.trans (hpa rfl)) (by decide)
            subst hph
            intro a w2 hw0 _ hf K hK
            have hK' : ∀ d v w', _ = some d → F8b g5 g7 n c j ad #[Value.int .i64 p4, Value.int .i64 v4, Value.int .i64 m4, Value.slice A4 n4 c4] #[Value.int .i64 kind, Value.int .i64 onum, Value.slice oA od.length oc] r d v w' → (Below wc.heap.size wc w') → Rb w2 w' → _ → K (a.put (some d) v) w' := fun d v w' h1 h2 h3 h4 h5 => hK d v w' h1 h2 (by simpa using h3) h4 h5
            have hw : Below wc.heap.size wc w2 := by simpa using hw0
            have f0 := hf 7 rfl
            simp only [F8b] at f0
            clear hf
            obtain ⟨a0, a1, a2, a3⟩ := hcell.out w2 hw
            go_simp
            exact hK' _ _ _ rfl rfl hw (Below.refl _ _) (fun h => absurd h (by decide))
          · have hph : ph = false := by
              cases ph with
              | false => rfl
              | true => exact absurd ((show RW.ahead _ 10 1 = true by kernel_rfl).symm.trans (hpa rfl)) (by decide)
            subst hph
            intro a w2 hw0 _ hf K hK
            have hK' : ∀ d v w', _ = some d → F8b g5 g7 n c j ad #[Value.int .i64 p4, Value.int .i64 v4, Value.int .i64 m4, Value.slice A4 n4 c4] #[Value.int .i64 kind, Value.int .i64 onum, Value.slice oA od.length oc] r d v w' → (Below wc.heap.size wc w') → Rb w2 w' → _ → K (a.put (some d) v) w' := fun d v w' h1 h2 h3 h4 h5 => hK d v w' h1 h2 (by simpa using h3) h4 h5
            have hw : Below wc.heap.size wc w2 := by simpa using hw0
            have f0 := hf 1 rfl
            simp only [F8b] at f0
            clear hf
            go_simp
            exact hK' _ _ _ rfl rfl hw (Below.refl _ _) (fun h => absurd h (by decide))
          · have hph : ph = false := by
              cases ph with
              | false => rfl
              | true => exact absurd ((show RW.ahead _ 10 2 = true by kernel_rfl).symm.trans (hpa rfl)) (by decide)
            subst hph
            intro a w2 hw0 _ hf K hK
            have hK' : ∀ d v w', _ = some d → F8b g5 g7 n c j ad #[Value.int .i64 p4, Value.int .i64 v4, Value.int .i64 m4, Value.slice A4 n4 c4] #[Value.int .i64 kind, Value.int .i64 onum, Value.slice oA od.length oc] r d v w' → (Below wc.heap.size wc w') → Rb w2 w' → _ → K (a.put (some d) v) w' := fun d v w' h1 h2 h3 h4 h5 => hK d v w' h1 h2 (by simpa using h3) h4 h5
            have hw : Below wc.heap.size wc w2 := by simpa using hw0
            have f0 := hf 9 rfl
            simp only [F8b] at f0
            clear hf
            go_simp
            exact hK' _ _ _ rfl rfl hw (Below.refl _ _) (fun h => absurd h (by decide))
          · have hph : ph = false := by
              cases ph with
              | false => rfl
              | true => exact absurd ((show RW.ahead _ 10 3 = true by kernel_rfl).symm.trans (hpa rfl)) (by decide)
            subst hph
            intro a w2 hw0 _ hf K hK
            have hK' : ∀ d v w', _ = some d → F8b g5 g7 n c j ad #[Value.int .i64 p4, Value.int .i64 v4, Value.int .i64 m4, Value.slice A4 n4 c4] #[Value.int .i64 kind, Value.int .i64 onum, Value.slice oA od.length oc] r d v w' → (Below wc.heap.size wc w') → Rb w2 w' → _ → K (a.put (some d) v) w' := fun d v w' h1 h2 h3 h4 h5 => hK d v w' h1 h2 (by simpa using h3) h4 h5
            have hw : Below wc.heap.size wc w2 := by simpa using hw0
            have f0 := hf 54 rfl
            have f1 := hf 55 rfl
            simp only [F8b] at f0 f1
            clear hf
            go_simp
            exact hK' _ _ _ rfl rfl hw (Below.refl _ _) (fun h => absurd h (by decide))
          · have hph : ph = false := by
              cases ph with
              | false => rfl
              | true => exact absurd ((show RW.ahead _ 10 4 = true by kernel_rfl).symm.trans (hpa rfl)) (by decide)
            subst hph
            intro a w2 hw0 _ hf K hK
            have hK' : ∀ d v w', _ = some d → F8b g5 g7 n c j ad #[Value.int .i64 p4, Value.int .i64 v4, Value.int .i64 m4, Value.slice A4 n4 c4] #[Value.int .i64 kind, Value.int .i64 onum, Value.slice oA od.length oc] r d v w' → (Below wc.heap.size wc w') → Rb w2 w' → _ → K (a.put (some d) v) w' := fun d v w' h1 h2 h3 h4 h5 => hK d v w' h1 h2 (by simpa using h3) h4 h5
            have hw : Below wc.heap.size wc w2 := by simpa using hw0
            have f0 := hf 56 rfl
            simp only [F8b] at f0
            clear hf
            obtain ⟨o0, o1, o2⟩ := hcello.out w2 hw
            go_simp
            exact hK' _ _ _ rfl rfl hw (Below.refl _ _) (fun h => absurd h (by decide))
          · have hph : ph = false := by
              cases ph with
              | false => rfl
              | true => exact absurd ((show RW.ahead _ 10 5 = true by kernel_rfl).symm.trans (hpa rfl)) (by decide)
            subst hph
            intro a w2 hw0 _ hf K hK
            have hK' : ∀ d v w', _ = some d → F8b g5 g7 n c j ad #[Value.int .i64 p4, Value.int .i64 v4, Value.int .i64 m4, Value.slice A4 n4 c4] #[Value.int .i64 kind, Value.int .i64 onum, Value.slice oA od.length oc] r d v w' → (Below wc.heap.size wc w') → Rb w2 w' → _ → K (a.put (some d) v) w' := fun d v w' h1 h2 h3 h4 h5 => hK d v w' h1 h2 (by simpa using h3) h4 h5
            have hw : Below wc.heap.size wc w2 := by simpa using hw0
            have f0 := hf 53 rfl
            have f1 := hf 57 rfl
            simp only [F8b] at f0 f1
            clear hf
            go_simp
            refine (hcl.out w2 hw).mono ?_; rintro e w5 ⟨hP, hbq⟩
            obtain ⟨v9, rfl, hT⟩ := hP
            exact hK' _ _ _ rfl hT (hw.trans (hbq.mono hw.size)) hbq (fun h => absurd h (by decide))
          · have hph : ph = false := by
              cases ph with
              | false => rfl
              | true => exact absurd ((show RW.ahead _ 10 6 = true by kernel_rfl).symm.trans (hpa rfl)) (by decide)
            subst hph
            intro a w2 hw0 _ hf K hK
            have hK' : ∀ d v w', _ = some d → F8b g5 g7 n c j ad #[Value.int .i64 p4, Value.int .i64 v4, Value.int .i64 m4, Value.slice A4 n4 c4] #[Value.int .i64 kind, Value.int .i64 onum, Value.slice oA od.length oc] r d v w' → (Below wc.heap.size wc w') → Rb w2 w' → _ → K (a.put (some d) v) w' := fun d v w' h1 h2 h3 h4 h5 => hK d v w' h1 h2 (by simpa using h3) h4 h5
            have hw : Below wc.heap.size wc w2 := by simpa using hw0
            have f0 := hf 58 rfl
            simp only [F8b] at f0
            clear hf
            have hT := Lib.hid f0
            clear f0
            go_simp
            exact hK' _ _ _ rfl hT.out hw (Below.refl _ _) (fun h => absurd h (by decide))
          · have hph : ph = false := by
              cases ph with
              | false => rfl
              | true => exact absurd ((show RW.ahead _ 10 7 = true by kernel_rfl).symm.trans (hpa rfl)) (by decide)
            subst hph
            intro a w2 hw0 _ hf K hK
            have hK' : ∀ d v w', _ = some d → F8b g5 g7 n c j ad #[Value.int .i64 p4, Value.int .i64 v4, Value.int .i64 m4, Value.slice A4 n4 c4] #[Value.int .i64 kind, Value.int .i64 onum, Value.slice oA od.length oc] r d v w' → (Below wc.heap.size wc w') → Rb w2 w' → _ → K (a.put (some d) v) w' := fun d v w' h1 h2 h3 h4 h5 => hK d v w' h1 h2 (by simpa using h3) h4 h5
            have hw : Below wc.heap.size wc w2 := by simpa using hw0
            have f0 := hf 52 rfl
            simp only [F8b] at f0
            clear hf
            obtain ⟨k', hv, h1, h2⟩ := f0
            replace h1 := Lib.hid h1
            replace h2 := Lib.hid h2
            simp only [clV] at hv
            go_simp
            exact hK' _ _ _ rfl ⟨k', rfl, h1.out, h2.out⟩ hw (Below.refl _ _) (fun h => absurd h (by decide))
          · intro a w2 hw _ hf K hK
            have f0 := hf 52 rfl
            simp only [F8b] at f0
            clear hf
            obtain ⟨k', hv, h1, h2⟩ := f0
            replace h1 := Lib.hid h1
            replace h2 := Lib.hid h2
            simp only [clV] at hv
            go_simp
            exact hK _ _ _ rfl rfl hw (Below.refl _ _) (fun h => absurd h (by decide))
          · intro a w2 hw _ hf K hK
            have f0 := hf 52 rfl
            simp only [F8b] at f0
            clear hf
            obtain ⟨k', hv, h1, h2⟩ := f0
            replace h1 := Lib.hid h1
            replace h2 := Lib.hid h2
            simp only [clV] at hv
            go_simp
            exact hK _ _ _ rfl rfl hw (Below.refl _ _) (fun h => absurd h (by decide))
          · intro a w2 hw _ hf K hK
            have f0 := hf 60 rfl
            simp only [F8b] at f0
            clear hf
            go_simp
            exact hK _ _ _ rfl rfl hw (Below.refl _ _) (fun h => absurd h (by decide))
        · intro o ho a w2 hw0 hf K hK
          injection ho with ho
          subst ho
          have hw : Below wc.heap.size wc w2 := by simpa using hw0
          have f0 := hf 7 rfl
          have f1 := hf 59 rfl
          simp only [F8b] at f0 f1
          clear hf
          obtain ⟨k9, hl9, q1, q2⟩ := f1
          have q1 := Lib.hid q1
          have q2 := Lib.hid q2
          simp only [clV] at hl9
          obtain ⟨a0, a1, a2, a3, z0, z1, z2, z3⟩ := hcellz.out w2 hw
          have hg1 := Lib.hid (grown_set4 w2 g7 (Value.int .i64 k9.primary) (Value.int .i64 k9.view) (Value.int .i64 k9.commit) (Value.slice k9.A k9.n k9.c))
          go_simp
          exact hK undef _ (by show if true = true then _ else _; rw [if_pos rfl]; exact ⟨w2, k9, hw, rfl, q1.out, q2.out⟩) (fun t u hF => F8b_st t u w2 _ hg1.out hF)
        · intro a' w9 hd hs hw hout hf
          replace hw : ∃ (w8 : World) (k' : Cm), Below wc.heap.size wc w8 ∧ w9 = ((((w8.setCell ⟨g7, 0, none⟩ (Value.int .i64 k'.primary)).setCell ⟨g7, 1, none⟩ (Value.int .i64 k'.view)).setCell ⟨g7, 2, none⟩ (Value.int .i64 k'.commit)).setCell ⟨g7, 3, none⟩ (Value.slice k'.A k'.n k'.c)) ∧ CmAt w8 (fun b => b ≠ g5 ∧ b ≠ g7) k' ∧ k'.val = r.1 := by simpa using hw
          have h11 := hf 11 11 (by decide) rfl rfl
          simp only [F8b] at h11
          have h61 := hf 9 61 (by decide) rfl rfl
          simp only [F8b] at h61
          have e0 : _ = some (Value.int .i64 (M : Int)) := hout 0 rfl
          have e1 : _ = some (Value.slice (some ad) n c) := hout 1 rfl
          have e2 : _ = some (undef) := hout 2 rfl
          have e3 : _ = some (undef) := hout 3 rfl
          have e5 : _ = some (Value.pointer (some ⟨g5, 0, none⟩)) := hout 5 rfl
          have e7 : _ = some (Value.pointer (some ⟨g7, 0, none⟩)) := hout 7 rfl
          have e9 : _ = some (Value.int .i64 (j : Int)) := hout 9 rfl
          have e12 : _ = some (Value.slice (some ad) n c) := hout 12 rfl
          have e13 : _ = some (Value.bool false) := hout 13 rfl
          have e14 : _ = some (undef) := hout 14 rfl
          have e15 : _ = some (Value.tuple #[Value.agg #[Value.int .i64 p1, Value.int .i64 v1, Value.int .i64 m1, Value.slice A1 n1 c1], Value.int .i64 0]) := hout 15 rfl
          have e16 : _ = some (Value.int .i64 (M : Int)) := hout 16 rfl
          have e17 : _ = some (Value.tuple #[Value.agg #[Value.int .i64 p1, Value.int .i64 v1, Value.int .i64 m1, Value.slice A1 n1 c1], Value.int .i64 0]) := hout 17 rfl
          have e18 : _ = some (Value.agg #[Value.int .i64 p1, Value.int .i64 v1, Value.int .i64 m1, Value.slice A1 n1 c1]) := hout 18 rfl
          have e19 : _ = some (Value.int .i64 0) := hout 19 rfl
          have e20 : _ = some (Value.tuple #[Value.agg #[Value.int .i64 p2, Value.int .i64 v2, Value.int .i64 m2, Value.slice A2 n2 c2], Value.int .i64 0]) := hout 20 rfl
          have e21 : _ = some (Value.int .i64 (M : Int)) := hout 21 rfl
          have e22 : _ = some (Value.tuple #[Value.agg #[Value.int .i64 p2, Value.int .i64 v2, Value.int .i64 m2, Value.slice A2 n2 c2], Value.int .i64 0]) := hout 22 rfl
          have e23 : _ = some (Value.agg #[Value.int .i64 p2, Value.int .i64 v2, Value.int .i64 m2, Value.slice A2 n2 c2]) := hout 23 rfl
          have e24 : _ = some (Value.int .i64 0) := hout 24 rfl
          have e25 : _ = some (Value.int .i64 0) := hout 25 rfl
          have e26 : _ = some (Value.int .i64 0) := hout 26 rfl
          have e27 : _ = some (Value.bool false) := hout 27 rfl
          have e28 : _ = some (Value.bool false) := hout 28 rfl
          have e29 : _ = some (Value.agg #[Value.int .i64 p1, Value.int .i64 v1, Value.int .i64 m1, Value.slice A1 n1 c1]) := hout 29 rfl
          have e30 : _ = some (Value.agg #[Value.int .i64 p2, Value.int .i64 v2, Value.int .i64 m2, Value.slice A2 n2 c2]) := hout 30 rfl
          have e31 : _ = some (Value.bool true) := hout 31 rfl
          have e32 : _ = some (Value.bool false) := hout 32 rfl
          have e33 : _ = some (Value.bool false) := hout 33 rfl
          have e34 : _ = some (Value.int .i64 0) := hout 34 rfl
          have e35 : _ = some (Value.bool false) := hout 35 rfl
          have e36 : _ = some (undef) := hout 36 rfl
          have e37 : _ = some (Value.slice (some ad) n c) := hout 37 rfl
          have e38 : _ = some (Value.int .i64 (n : Int)) := hout 38 rfl
          have e39 : _ = some (Value.int .i64 (j : Int)) := hout 39 rfl
          have e40 : _ = some (Value.bool true) := hout 40 rfl
          have e41 : _ = some (Value.int .i64 (j : Int)) := hout 41 rfl
          have e82 : _ = some (undef) := hout 82 rfl
          have e83 : _ = some (undef) := hout 83 rfl
          have e84 : _ = some (undef) := hout 84 rfl
          have e85 : _ = some (undef) := hout 85 rfl
          have e86 : _ = some (undef) := hout 86 rfl
          have e87 : _ = some (undef) := hout 87 rfl
          have e88 : _ = some (undef) := hout 88 rfl
          have e89 : _ = some (undef) := hout 89 rfl
          have e10 : _ = some (Value.int .i64 r.2.1) := hout 10 rfl
          have e6 : _ = some (Value.int .i64 r.2.2) := hout 6 rfl
          obtain ⟨tm, df⟩ := a'
          simp only at hd hs h11 h61 e0 e1 e2 e3 e5 e7 e9 e12 e13 e14 e15 e16 e17 e18 e19 e20 e21 e22 e23 e24 e25 e26 e27 e28 e29 e30 e31 e32 e33 e34 e35 e36 e37 e38 e39 e40 e41 e82 e83 e84 e85 e86 e87 e88 e89 e10 e6
          have e := F8b_lit tm hs
          simp only [h11, h61, e0, e1, e2, e3, e5, e7, e9, e12, e13, e14, e15, e16, e17, e18, e19, e20, e21, e22, e23, e24, e25, e26, e27, e28, e29, e30, e31, e32, e33, e34, e35, e36, e37, e38, e39, e40, e41, e82, e83, e84, e85, e86, e87, e88, e89, e10, e6, Option.getD_some] at e
          clear hf hout hs
          rw [e, hd]
          clear e hd h11 h61 e0 e1 e2 e3 e5 e7 e9 e12 e13 e14 e15 e16 e17 e18 e19 e20 e21 e22 e23 e24 e25 e26 e27 e28 e29 e30 e31 e32 e33 e34 e35 e36 e37 e38 e39 e40 e41 e82 e83 e84 e85 e86 e87 e88 e89 e10 e6
          generalize tm[4]?.getD undef = u4x, tm[8]?.getD undef = u8x, tm[42]?.getD undef = u42x, tm[43]?.getD undef = u43x, tm[44]?.getD undef = u44x, tm[45]?.getD undef = u45x, tm[46]?.getD undef = u46x, tm[47]?.getD undef = u47x, tm[48]?.getD undef = u48x, tm[49]?.getD undef = u49x, tm[50]?.getD undef = u50x, tm[51]?.getD undef = u51x, tm[52]?.getD undef = u52x, tm[53]?.getD undef = u53x, tm[54]?.getD undef = u54x, tm[55]?.getD undef = u55x, tm[56]?.getD undef = u56x, tm[57]?.getD undef = u57x, tm[58]?.getD undef = u58x, tm[59]?.getD undef = u59x, tm[60]?.getD undef = u60x, tm[62]?.getD undef = u62x, tm[63]?.getD undef = u63x, tm[64]?.getD undef = u64x, tm[65]?.getD undef = u65x, tm[66]?.getD undef = u66x, tm[67]?.getD undef = u67x, tm[68]?.getD undef = u68x, tm[69]?.getD undef = u69x, tm[70]?.getD undef = u70x, tm[71]?.getD undef = u71x, tm[72]?.getD undef = u72x, tm[73]?.getD undef = u73x, tm[74]?.getD undef = u74x, tm[75]?.getD undef = u75x, tm[76]?.getD undef = u76x, tm[77]?.getD undef = u77x, tm[78]?.getD undef = u78x, tm[79]?.getD undef = u79x, tm[80]?.getD undef = u80x, tm[81]?.getD undef = u81x
          obtain ⟨w9, k', hw, hws, hk', hv'⟩ := hw
          subst hws
          obtain ⟨p7, v7, m7, A7, n7, c7, l7⟩ := k'
          have hi7 : Inv r.1 C' := hi.out
          have hcf7 : From (Cm.val (⟨p4, v4, m4, A4, n4, c4, l4⟩ : Cm)) od r.1 := by have := hcf.out; rw [hab.out] at this; exact this
          have hS7 : Hid (StOk w M (j + 1) g7 C' (⟨p7, v7, m7, A7, n7, c7, l7⟩ : Cm) ((((w9.setCell ⟨g7, 0, none⟩ (Value.int .i64 p7)).setCell ⟨g7, 1, none⟩ (Value.int .i64 v7)).setCell ⟨g7, 2, none⟩ (Value.int .i64 m7)).setCell ⟨g7, 3, none⟩ (Value.slice A7 n7 c7))) := StOk.next hSb.out hw (hk'.imp (fun b hb => Or.inl hb.2)) hv' hi7 hcf7
          have hg9 := grown_set4 w9 g7 (Value.int .i64 p7) (Value.int .i64 v7) (Value.int .i64 m7) (Value.slice A7 n7 c7)
          have hQ7 : Hid (CmAt ((((w9.setCell ⟨g7, 0, none⟩ (Value.int .i64 p7)).setCell ⟨g7, 1, none⟩ (Value.int .i64 v7)).setCell ⟨g7, 2, none⟩ (Value.int .i64 m7)).setCell ⟨g7, 3, none⟩ (Value.slice A7 n7 c7)) (fun b => b ≠ g5 ∧ b ≠ g7) (⟨p7, v7, m7, A7, n7, c7, l7⟩ : Cm)) := hk'.st hg9 (fun b hb => qq_ne (.inr rfl) hb)
          have hQ88 : Hid (CmAt ((((w9.setCell ⟨g7, 0, none⟩ (Value.int .i64 p7)).setCell ⟨g7, 1, none⟩ (Value.int .i64 v7)).setCell ⟨g7, 2, none⟩ (Value.int .i64 m7)).setCell ⟨g7, 3, none⟩ (Value.slice A7 n7 c7)) (fun b => b ≠ g5 ∧ b ≠ g7) (⟨p8, v8, m8, A8, n8, c8, l8⟩ : Cm)) := (hQ8.out.more hw).st hg9 (fun b hb => qq_ne (.inr rfl) hb)
          have hS88 : Hid (StOk w M (j + 1) g5 C' (⟨p8, v8, m8, A8, n8, c8, l8⟩ : Cm) ((((w9.setCell ⟨g7, 0, none⟩ (Value.int .i64 p7)).setCell ⟨g7, 1, none⟩ (Value.int .i64 v7)).setCell ⟨g7, 2, none⟩ (Value.int .i64 m7)).setCell ⟨g7, 3, none⟩ (Value.slice A7 n7 c7))) := StOk.far (hS8.out.more hw) hne.out (hQ8.out.more hw) hg9 hSb.out.base
          have hab8 : (Cm.val (⟨p8, v8, m8, A8, n8, c8, l8⟩ : Cm)) = (Cm.val (⟨p7, v7, m7, A7, n7, c7, l7⟩ : Cm)) := hv8.out.trans hv'.symm
          have hT2 : Hid (TwoOk w M (j + 1) g5 g7 C' (⟨p8, v8, m8, A8, n8, c8, l8⟩ : Cm) (⟨p7, v7, m7, A7, n7, c7, l7⟩ : Cm) ((((w9.setCell ⟨g7, 0, none⟩ (Value.int .i64 p7)).setCell ⟨g7, 1, none⟩ (Value.int .i64 v7)).setCell ⟨g7, 2, none⟩ (Value.int .i64 m7)).setCell ⟨g7, 3, none⟩ (Value.slice A7 n7 c7))) := ⟨hS88.out, hS7.out, hQ88.out, hQ7.out, hab8, hne.out⟩
          clear hk' hv' hw hcell hcellz hcl hcello hg9 hi7 hcf7 hi hcf hS7 hQ7 hQ88 hS88 hab8 hS8 hSb hQ8 hQb hab hg5lt hg7lt hv8
          try simp only
          obtain ⟨k0, k1, k2, k3⟩ := cells4 (((((w9.setCell ⟨g7, 0, none⟩ (Value.int .i64 p7)).setCell ⟨g7, 1, none⟩ (Value.int .i64 v7)).setCell ⟨g7, 2, none⟩ (Value.int .i64 m7)).setCell ⟨g7, 3, none⟩ (Value.slice A7 n7 c7))) (g5) (Value.int .i64 p8) (Value.int .i64 v8) (Value.int .i64 m8) (Value.slice A8 n8 c8) (hT2.out.sa.box.blk)
          obtain ⟨t0, t1, t2, t3⟩ := cells4 (((((w9.setCell ⟨g7, 0, none⟩ (Value.int .i64 p7)).setCell ⟨g7, 1, none⟩ (Value.int .i64 v7)).setCell ⟨g7, 2, none⟩ (Value.int .i64 m7)).setCell ⟨g7, 3, none⟩ (Value.slice A7 n7 c7))) (g7) (Value.int .i64 p7) (Value.int .i64 v7) (Value.int .i64 m7) (Value.slice A7 n7 c7) (hT2.out.sb.box.blk)
          obtain ⟨N2, hN2⟩ : ∃ N2, N2 = r.2.1 := ⟨_, rfl⟩
          obtain ⟨E2, hE2⟩ : ∃ E2, E2 = r.2.2 := ⟨_, rfl⟩
          rw [← hN2, ← hE2]
          replace hN2 := Lib.hid hN2
          replace hE2 := Lib.hid hE2
          go_wp2_with fail
          clear k0 k1 k2 k3 t0 t1 t2 t3
          generalize ((((w9.setCell ⟨g7, 0, none⟩ (Value.int .i64 p7)).setCell ⟨g7, 1, none⟩ (Value.int .i64 v7)).setCell ⟨g7, 2, none⟩ (Value.int .i64 m7)).setCell ⟨g7, 3, none⟩ (Value.slice A7 n7 c7)) = w3 at *
          refine (same_any (⟨p8, v8, m8, A8, n8, c8, l8⟩ : Cm) (⟨p7, v7, m7, A7, n7, c7, l7⟩ : Cm) w3 hT2.out.qa hT2.out.qb hT2.out.ab (fun s hs => ((hT2.out.sa.sm1 (by omega)).2.2 s hs).1) (Nat.le_trans (hT2.out.sa.sm1 (by omega)).2.1 (by decide))).mono ?_; rintro e w4 ⟨rfl, hq⟩
          have hT3 := Lib.hid (hT2.out.more hq)
          clear hq hT2
          obtain ⟨k0, k1, k2, k3⟩ := cells4 (w4) (g5) (Value.int .i64 p8) (Value.int .i64 v8) (Value.int .i64 m8) (Value.slice A8 n8 c8) (hT3.out.sa.box.blk)
          go_wp2_with fail
          refine hT3.out.sa.valid.mono ?_; rintro e w5 ⟨rfl, hq⟩
          clear k0 k1 k2 k3
          have hT4 := Lib.hid (hT3.out.more hq)
          clear hq hT3
          go_wp2_with fail
          go_roundw
          case rel => exact ⟨j + 1, C', _, _, by omega, by go_num, hT4.out⟩
          case measure => simp [intOf]; omega
    · obtain ⟨p3, v3, m3, A3, n3, c3, l3⟩ := a
      obtain ⟨p4, v4, m4, A4, n4, c4, l4⟩ := b
      have hm120 : j ≤ 120 := by omega
      obtain ⟨ds, hdse⟩ : ∃ ds, ds = C.map (fun e : En => e.d) := ⟨_, rfl⟩
      obtain ⟨h1, h2, -⟩ := committed_eq hT.out.sb.inv
      have hds : Hid (ds.length ≤ 100000) := by
        show _ ≤ _
        rw [hdse, List.length_map]
        rcases mem_best (Cm.val (⟨p4, v4, m4, A4, n4, c4, l4⟩ : Cm)) with e | ⟨s, hs, e⟩
        · rw [e] at h2; simp only [List.length_nil] at h2; omega
        · rw [e] at h2
          have := (hT.out.sb.good.all s hs).2.1
          omega
      have hb4 : Hid (Below w.heap.size w wr) := hT.out.sa.below
      have hcom : Hid (∀ wz, Below wr.heap.size wr wz → Calls Try.prog 17 #[.agg #[Value.int .i64 p3, Value.int .i64 v3, Value.int .i64 m3, Value.slice A3 n3 c3]] wz fun e w' => (∃ v, e = .returned v ∧ ComT ds v w') ∧ Below wz.heap.size wz w') := fun wz hz => by
        rw [hdse]
        exact ((hT.out.sa.more hz).com hm120).mono (fun e w' h => ⟨h.1.row, h.2⟩)
      have hrcom : Hid (∀ wz, Below wr.heap.size wr wz → Calls Try.prog 18 #[.agg #[Value.int .i64 p4, Value.int .i64 v4, Value.int .i64 m4, Value.slice A4 n4 c4]] wz fun e w' => (∃ v, e = .returned v ∧ ComT ds v w') ∧ Below wz.heap.size wz w') := fun wz hz => by
        have hsm := hT.out.sb.sm2 hm120
        rw [hdse, ← h1]
        exact (rcommitted_any (⟨p4, v4, m4, A4, n4, c4, l4⟩ : Cm) C.length wz (hT.out.qb.more hz) hsm.1 hsm.2.1 (fun s hs => (hsm.2.2 s hs).1) hT.out.sb.inv.com.symm h2).mono (fun e w' h => ⟨h.1.row, h.2⟩)
      have hex : Hid (∀ wz, Below wr.heap.size wr wz → Calls Try.prog 12 #[] wz fun e w' => e = .returned (.bool true) ∧ Below wz.heap.size wz w') := fun wz _ => ex_any wz
      have hc5 : Hid (∀ wz, Below wr.heap.size wr wz → wz.cell? ⟨g5, 0, none⟩ = some (Value.int .i64 p3) ∧ wz.cell? ⟨g5, 1, none⟩ = some (Value.int .i64 v3) ∧ wz.cell? ⟨g5, 2, none⟩ = some (Value.int .i64 m3) ∧ wz.cell? ⟨g5, 3, none⟩ = some (Value.slice A3 n3 c3)) := fun wz hz => by
        have q := hT.out.sa.box.blk.below hz hT.out.sa.box.blk.lt
        exact ⟨q.cell 0, q.cell 1, q.cell 2, q.cell 3⟩
      have hc7 : Hid (∀ wz, Below wr.heap.size wr wz → wz.cell? ⟨g7, 0, none⟩ = some (Value.int .i64 p4) ∧ wz.cell? ⟨g7, 1, none⟩ = some (Value.int .i64 v4) ∧ wz.cell? ⟨g7, 2, none⟩ = some (Value.int .i64 m4) ∧ wz.cell? ⟨g7, 3, none⟩ = some (Value.slice A4 n4 c4)) := fun wz hz => by
        have q := hT.out.sb.box.blk.below hz hT.out.sb.box.blk.lt
        exact ⟨q.cell 0, q.cell 1, q.cell 2, q.cell 3⟩
      clear h1 h2 hdse hT
      go_wp2_with fail
      refine RM.region [] [] (F := F8c g5 g7 #[Value.int .i64 p3, Value.int .i64 v3, Value.int .i64 m3, Value.slice A3 n3 c3] #[Value.int .i64 p4, Value.int .i64 v4, Value.int .i64 m4, Value.slice A4 n4 c4] ds) (W := fun wz => Below wr.heap.size wr wz) (R := fun _ => Rb) (S := noS) (G := noG) rfl F8c_more (fun _ _ _ _ _ _ _ => trivial) (fun _ _ _ _ _ h => h.elim) (fun _ _ _ _ _ h => h.elim) (by kernel_rfl) (by kernel_rfl) (by kernel_rfl) (by kernel_rfl) (by kernel_rfl) ?_ ?_ ?_ (by kernel_rfl) ?_
      · exact (Below.refl _ _).drew
      · intro t ht
        unfold F8c
        split <;> first | trivial | exact rfl | (exact absurd ht (by decide))
      · simp only [List.forall_mem_cons, List.not_mem_nil, false_implies, implies_true, and_true]
        refine ⟨?_, ?_, ?_, ?_, ?_, ?_, ?_, ?_, ?_⟩
        · intro a w2 hw _ hf K hK
          have f0 := hf 5 rfl
          simp only [F8c] at f0
          clear hf
          obtain ⟨k0, k1, k2, k3⟩ := hc5.out w2 hw
          go_simp
          exact hK _ _ _ rfl rfl hw (Below.refl _ _) (fun h => absurd h (by decide))
        · intro a w2 hw _ hf K hK
          have f0 := hf 82 rfl
          simp only [F8c] at f0
          clear hf
          go_simp
          refine (hcom.out w2 hw).mono ?_; rintro e w5 ⟨⟨v9, rfl, hT⟩, hbq⟩
          exact hK _ _ _ rfl hT (hw.trans (hbq.mono hw.size)) hbq (fun h => absurd h (by decide))
        · intro a w2 hw _ hf K hK
          have f0 := hf 7 rfl
          simp only [F8c] at f0
          clear hf
          obtain ⟨k0, k1, k2, k3⟩ := hc7.out w2 hw
          go_simp
          exact hK _ _ _ rfl rfl hw (Below.refl _ _) (fun h => absurd h (by decide))
        · intro a w2 hw _ hf K hK
          have f0 := hf 84 rfl
          simp only [F8c] at f0
          clear hf
          go_simp
          refine (hrcom.out w2 hw).mono ?_; rintro e w5 ⟨⟨v9, rfl, hT⟩, hbq⟩
          exact hK _ _ _ rfl hT (hw.trans (hbq.mono hw.size)) hbq (fun h => absurd h (by decide))
        · intro a w2 hw _ hf K hK
          have f0 := hf 83 rfl
          have f1 := hf 85 rfl
          simp only [F8c] at f0 f1
          clear hf
          obtain ⟨A4, n4, c4, C4, e4, q41, q42, q43⟩ := f0
          obtain ⟨A6, n6, c6, C6, e6, q61, q62, q63⟩ := f1
          have hn4 : n4 ≤ 100000 := by have h1 := q41.len; have h2 := congrArg List.length q43; rw [List.length_map] at h2; have := hds.out; omega
          have hsd := Lib.hid (sameData_any A4 A6 n4 c4 n6 c6 C4 C6 w2 q41 q61 q42 q62 (q43.trans q63.symm) hn4)
          clear q41 q61 q42 q62 q43 q63
          go_simp
          refine hsd.out.mono ?_; rintro e w5 ⟨rfl, rfl⟩
          exact hK _ _ _ rfl rfl hw (Below.refl _ _) (fun h => absurd h (by decide))
        · intro a w2 hw _ hf K hK
          have f0 := hf 86 rfl
          simp only [F8c] at f0
          clear hf
          go_simp
          exact hK _ _ _ rfl rfl hw (Below.refl _ _) (fun h => absurd h (by decide))
        · refine ⟨?_, ?_⟩
          · intro a w2 hw hg hf K hK
            clear hf
            go_simp
            refine (hex.out w2 hw).mono ?_; rintro e w5 ⟨rfl, hbq⟩
            exact hK _ _ _ rfl rfl (hw.trans (hbq.mono hw.size)) hbq (fun h => absurd h (by decide))
          · exact fun v w _ hv hne => absurd hv hne
        · intro a w2 hw _ hf K hK
          have f0 := hf 87 rfl
          have f1 := hf 88 rfl
          simp only [F8c] at f0 f1
          clear hf
          go_simp
          exact hK _ _ _ rfl rfl hw (Below.refl _ _) (fun h => absurd h (by decide))
        · intro a w2 hw _ hf K hK
          have f0 := hf 89 rfl
          simp only [F8c] at f0
          clear hf
          go_simp
          exact hK _ _ _ rfl rfl hw (Below.refl _ _) (fun h => absurd h (by decide))
      · intro a' w9 hd hs hw hout hf _
        have h4 := hf 4 rfl
        simp only [F8c] at h4
        have e0 : _ = some (Value.int .i64 (M : Int)) := hout 0 rfl
        have e5 : _ = some (Value.pointer (some ⟨g5, 0, none⟩)) := hout 5 rfl
        have e7 : _ = some (Value.pointer (some ⟨g7, 0, none⟩)) := hout 7 rfl
        obtain ⟨tm, df⟩ := a'
        simp only at hd hs h4 e0 e5 e7
        have e := F8c_lit tm hs
        simp only [h4, e0, e5, e7, Option.getD_some] at e
        clear hf hout hs
        rw [e, hd]
        clear e hd h4 e0 e5 e7
        generalize tm[1]?.getD undef = u1x, tm[2]?.getD undef = u2x, tm[3]?.getD undef = u3x, tm[6]?.getD undef = u6x, tm[8]?.getD undef = u8x, tm[9]?.getD undef = u9x, tm[10]?.getD undef = u10x, tm[11]?.getD undef = u11x, tm[12]?.getD undef = u12x, tm[13]?.getD undef = u13x, tm[14]?.getD undef = u14x, tm[15]?.getD undef = u15x, tm[16]?.getD undef = u16x, tm[17]?.getD undef = u17x, tm[18]?.getD undef = u18x, tm[19]?.getD undef = u19x, tm[20]?.getD undef = u20x, tm[21]?.getD undef = u21x, tm[22]?.getD undef = u22x, tm[23]?.getD undef = u23x, tm[24]?.getD undef = u24x, tm[25]?.getD undef = u25x, tm[26]?.getD undef = u26x, tm[27]?.getD undef = u27x, tm[28]?.getD undef = u28x, tm[29]?.getD undef = u29x, tm[30]?.getD undef = u30x, tm[31]?.getD undef = u31x, tm[32]?.getD undef = u32x, tm[33]?.getD undef = u33x, tm[34]?.getD undef = u34x, tm[35]?.getD undef = u35x, tm[36]?.getD undef = u36x, tm[37]?.getD undef = u37x, tm[38]?.getD undef = u38x, tm[39]?.getD undef = u39x, tm[40]?.getD undef = u40x, tm[41]?.getD undef = u41x, tm[42]?.getD undef = u42x, tm[43]?.getD undef = u43x, tm[44]?.getD undef = u44x, tm[45]?.getD undef = u45x, tm[46]?.getD undef = u46x, tm[47]?.getD undef = u47x, tm[48]?.getD undef = u48x, tm[49]?.getD undef = u49x, tm[50]?.getD undef = u50x, tm[51]?.getD undef = u51x, tm[52]?.getD undef = u52x, tm[53]?.getD undef = u53x, tm[54]?.getD undef = u54x, tm[55]?.getD undef = u55x, tm[56]?.getD undef = u56x, tm[57]?.getD undef = u57x, tm[58]?.getD undef = u58x, tm[59]?.getD undef = u59x, tm[60]?.getD undef = u60x, tm[61]?.getD undef = u61x, tm[62]?.getD undef = u62x, tm[63]?.getD undef = u63x, tm[64]?.getD undef = u64x, tm[65]?.getD undef = u65x, tm[66]?.getD undef = u66x, tm[67]?.getD undef = u67x, tm[68]?.getD undef = u68x, tm[69]?.getD undef = u69x, tm[70]?.getD undef = u70x, tm[71]?.getD undef = u71x, tm[72]?.getD undef = u72x, tm[73]?.getD undef = u73x, tm[74]?.getD undef = u74x, tm[75]?.getD undef = u75x, tm[76]?.getD undef = u76x, tm[77]?.getD undef = u77x, tm[78]?.getD undef = u78x, tm[79]?.getD undef = u79x, tm[80]?.getD undef = u80x, tm[81]?.getD undef = u81x, tm[82]?.getD undef = u82x, tm[83]?.getD undef = u83x, tm[84]?.getD undef = u84x, tm[85]?.getD undef = u85x, tm[86]?.getD undef = u86x, tm[87]?.getD undef = u87x, tm[88]?.getD undef = u88x, tm[89]?.getD undef = u89x
        have hb := Lib.hid (hb4.out.trans (hw.mono hb4.out.size))
        clear hw hc5 hc7 hcom hrcom hex
        go_wp2_with fail
        go_ret
        exact ⟨rfl, hb.out⟩
end Go.Proofs.Ytiapeenfggjpnaa
