/- Invoices: a valid book passes the reference's checks. -/
import Derived.Test.YtadgdbakgmjekaaIF
set_option linter.unusedVariables false
set_option linter.unusedSimpArgs false
namespace Go.Proofs.Ytadgdbakgmjekaa
open Go.RowKit
def F37 (gd gv go vn vc on oc : Nat) (vA oA : Option Addr) (vcu vcr : ByteArray) (its : List It) : Tmp → Value → World → Prop
  | 3, v, _ => v = .pointer (some ⟨gd, 0, none⟩)
  | 5, v, _ => v = .pointer (some ⟨gv, 0, none⟩)
  | 11, v, _ => v = .pointer (some ⟨go, 0, none⟩)
  | 115, v, _ => v = .pointer (some ⟨go, 8, none⟩)
  | 116, v, _ => v = .int .i64 0
  | 117, v, _ => v = .bool false
  | 118, v, _ => v = .bool false
  | 119, v, _ => v = .pointer (some ⟨go, 1, none⟩)
  | 120, v, _ => v = .string vcu
  | 121, v, _ => v = .pointer (some ⟨gv, 1, none⟩)
  | 122, v, _ => v = .string vcu
  | 123, v, _ => v = .bool false
  | 124, v, _ => v = .bool false
  | 125, v, _ => v = .bool false
  | 126, v, _ => v = .pointer (some ⟨go, 2, none⟩)
  | 127, v, _ => v = .string vcr
  | 128, v, _ => v = .pointer (some ⟨gv, 2, none⟩)
  | 129, v, _ => v = .string vcr
  | 130, v, _ => v = .bool false
  | 131, v, _ => v = .bool false
  | 132, v, _ => v = .bool false
  | 133, v, _ => v = .pointer (some ⟨gv, 4, none⟩)
  | 134, v, _ => v = .slice vA vn vc
  | 135, v, _ => v = .pointer (some ⟨go, 4, none⟩)
  | 136, v, _ => v = .slice oA on oc
  | 137, v, w => NegT its v w
  | 138, v, _ => v = .bool true
  | 139, v, _ => v = .bool false
  | 140, v, _ => v = .bool false
  | _, _, _ => True
theorem F37_more {gd gv go vn vc on oc : Nat} {vA oA : Option Addr} {vcu vcr : ByteArray} {its : List It} (d t : Tmp) (v : Value) (w w' : World) (hR : Rb w w') (hne : t ≠ d) (hc : ([] : List (Tmp × Tmp)).contains (d, t) = false) (h : F37 gd gv go vn vc on oc vA oA vcu vcr its t v w) : F37 gd gv go vn vc on oc vA oA vcu vcr its t v w' := by
  unfold F37 at *
  split at h <;> first | exact h | exact NegT.more h hR | exact fun hg => NegT.more (h hg) hR
theorem F37_lit (tm : Array Value) (hs : tm.size = 156) : tm = #[tm[0]?.getD undef, tm[1]?.getD undef, tm[2]?.getD undef, tm[3]?.getD undef, tm[4]?.getD undef, tm[5]?.getD undef, tm[6]?.getD undef, tm[7]?.getD undef, tm[8]?.getD undef, tm[9]?.getD undef, tm[10]?.getD undef, tm[11]?.getD undef, tm[12]?.getD undef, tm[13]?.getD undef, tm[14]?.getD undef, tm[15]?.getD undef, tm[16]?.getD undef, tm[17]?.getD undef, tm[18]?.getD undef, tm[19]?.getD undef, tm[20]?.getD undef, tm[21]?.getD undef, tm[22]?.getD undef, tm[23]?.getD undef, tm[24]?.getD undef, tm[25]?.getD undef, tm[26]?.getD undef, tm[27]?.getD undef, tm[28]?.getD undef, tm[29]?.getD undef, tm[30]?.getD undef, tm[31]?.getD undef, tm[32]?.getD undef, tm[33]?.getD undef, tm[34]?.getD undef, tm[35]?.getD undef, tm[36]?.getD undef, tm[37]?.getD undef, tm[38]?.getD undef, tm[39]?.getD undef, tm[40]?.getD undef, tm[41]?.getD undef, tm[42]?.getD undef, tm[43]?.getD undef, tm[44]?.getD undef, tm[45]?.getD undef, tm[46]?.getD undef, tm[47]?.getD undef, tm[48]?.getD undef, tm[49]?.getD undef, tm[50]?.getD undef, tm[51]?.getD undef, tm[52]?.getD undef, tm[53]?.getD undef, tm[54]?.getD undef, tm[55]?.getD undef, tm[56]?.getD undef, tm[57]?.getD undef, tm[58]?.getD undef, tm[59]?.getD undef, tm[60]?.getD undef, tm[61]?.getD undef, tm[62]?.getD undef, tm[63]?.getD undef, tm[64]?.getD undef, tm[65]?.getD undef, tm[66]?.getD undef, tm[67]?.getD undef, tm[68]?.getD undef, tm[69]?.getD undef, tm[70]?.getD undef, tm[71]?.getD undef, tm[72]?.getD undef, tm[73]?.getD undef, tm[74]?.getD undef, tm[75]?.getD undef, tm[76]?.getD undef, tm[77]?.getD undef, tm[78]?.getD undef, tm[79]?.getD undef, tm[80]?.getD undef, tm[81]?.getD undef, tm[82]?.getD undef, tm[83]?.getD undef, tm[84]?.getD undef, tm[85]?.getD undef, tm[86]?.getD undef, tm[87]?.getD undef, tm[88]?.getD undef, tm[89]?.getD undef, tm[90]?.getD undef, tm[91]?.getD undef, tm[92]?.getD undef, tm[93]?.getD undef, tm[94]?.getD undef, tm[95]?.getD undef, tm[96]?.getD undef, tm[97]?.getD undef, tm[98]?.getD undef, tm[99]?.getD undef, tm[100]?.getD undef, tm[101]?.getD undef, tm[102]?.getD undef, tm[103]?.getD undef, tm[104]?.getD undef, tm[105]?.getD undef, tm[106]?.getD undef, tm[107]?.getD undef, tm[108]?.getD undef, tm[109]?.getD undef, tm[110]?.getD undef, tm[111]?.getD undef, tm[112]?.getD undef, tm[113]?.getD undef, tm[114]?.getD undef, tm[115]?.getD undef, tm[116]?.getD undef, tm[117]?.getD undef, tm[118]?.getD undef, tm[119]?.getD undef, tm[120]?.getD undef, tm[121]?.getD undef, tm[122]?.getD undef, tm[123]?.getD undef, tm[124]?.getD undef, tm[125]?.getD undef, tm[126]?.getD undef, tm[127]?.getD undef, tm[128]?.getD undef, tm[129]?.getD undef, tm[130]?.getD undef, tm[131]?.getD undef, tm[132]?.getD undef, tm[133]?.getD undef, tm[134]?.getD undef, tm[135]?.getD undef, tm[136]?.getD undef, tm[137]?.getD undef, tm[138]?.getD undef, tm[139]?.getD undef, tm[140]?.getD undef, tm[141]?.getD undef, tm[142]?.getD undef, tm[143]?.getD undef, tm[144]?.getD undef, tm[145]?.getD undef, tm[146]?.getD undef, tm[147]?.getD undef, tm[148]?.getD undef, tm[149]?.getD undef, tm[150]?.getD undef, tm[151]?.getD undef, tm[152]?.getD undef, tm[153]?.getD undef, tm[154]?.getD undef, tm[155]?.getD undef] := lit_arr tm 156 hs
set_option maxRecDepth 100000 in
set_option maxHeartbeats 8000000 in
theorem one_any (A : Option Addr) (n c : Nat) (L : List Im) (k : Nat) (w : World) (h : GoodM w A n c L) (hk : k < n) : Calls Try.prog 37 #[.agg #[Value.slice A n c], .int .i64 k, ivV (L[k]'(by rw [h.at_.len]; exact hk))] w fun e w' => e = .returned (.int .i64 0) ∧ Below w.heap.size w w' := by
  have hl := h.at_.len
  have hkl : k < L.length := by omega
  have hn := h.n256
  have hcap := h.at_.cap
  obtain ⟨p1, p2, p3, p4, p5, p6, p7, p8, p9, p10⟩ := check_parts (h.parts hkl)
  obtain ⟨l1, l2, l3⟩ := late_parts (by rw [List.length_map]; omega) p2
  obtain ⟨ad, hA, -⟩ := iv_cells h.at_.row hk
  subst hA
  have hv := Lib.hid (h.at_.at_ hk)
  have hvs := h.small hkl
  have hk0 : (0 : Int) ≤ k := by omega
  have hk1 : (k : Int) < n := by omega
  have hpre : ∀ m, k = m + 1 → ∃ y : Int, w.cell? ⟨(ad.add (m * 9)).block, (ad.add (m * 9)).off + 3, none⟩ = some (Value.int .i64 y) ∧ y ≤ L[k].val.at_ := fun m hm => by
    have hml : m < L.length := by omega
    obtain ⟨ad', hA', -, -, -, -, t3, -⟩ := iv_cells h.at_.row (show m < n by omega)
    injection hA' with hA'
    subst hA'
    exact ⟨L[m].at_, t3, l3 L[m].val (by omega) (by rw [show k - 1 = m by omega]; exact map_at hml)⟩
  have hcrd0 := fun q => credits_parts p10 q
  have hLj : ∀ j (hj : j < L.length) wz, Below w.heap.size w wz → wz.cell? (ad.add (j * 9)) = some (Value.int .i64 L[j].num) ∧ wz.cell? ⟨(ad.add (j * 9)).block, (ad.add (j * 9)).off + 1, none⟩ = some (Value.string L[j].cust) ∧ wz.cell? ⟨(ad.add (j * 9)).block, (ad.add (j * 9)).off + 2, none⟩ = some (Value.string L[j].cur) ∧ wz.cell? ⟨(ad.add (j * 9)).block, (ad.add (j * 9)).off + 3, none⟩ = some (Value.int .i64 L[j].at_) ∧ wz.cell? ⟨(ad.add (j * 9)).block, (ad.add (j * 9)).off + 4, none⟩ = some (Value.slice L[j].A L[j].n L[j].c) ∧ wz.cell? ⟨(ad.add (j * 9)).block, (ad.add (j * 9)).off + 5, none⟩ = some (Value.int .i64 L[j].net) ∧ wz.cell? ⟨(ad.add (j * 9)).block, (ad.add (j * 9)).off + 6, none⟩ = some (Value.int .i64 L[j].vat) ∧ wz.cell? ⟨(ad.add (j * 9)).block, (ad.add (j * 9)).off + 7, none⟩ = some (Value.int .i64 L[j].gross) ∧ wz.cell? ⟨(ad.add (j * 9)).block, (ad.add (j * 9)).off + 8, none⟩ = some (Value.int .i64 L[j].credits) := fun j hj wz hz => by
    obtain ⟨ad', hA', -, t0, t1, t2, t3, t4, t5, t6, t7, t8⟩ := iv_cells (h.more hz).at_.row (show j < n by omega)
    injection hA' with hA'
    subst hA'
    exact ⟨t0, t1, t2, t3, t4, t5, t6, t7, t8⟩
  clear p2 l3
  obtain ⟨x, hx⟩ : ∃ x, x = L[k] := ⟨_, rfl⟩
  rw [← hx] at p1 p3 p4 p5 p6 p7 p8 p9 l1 l2 hpre hvs hv hcrd0 ⊢
  clear hx p10
  obtain ⟨vnum, vcu, vcr, vat, vA, vn, vc, vits, vnet, vvat, vgr, vcd⟩ := x
  simp only [Im.val, ivV] at p1 p3 p4 p5 p6 p7 p8 p9 l1 l2 hpre hvs hv hcrd0 ⊢
  have hel : ∀ j : Nat, vcd = (j : Int) + 1 → ∀ i9, i9 < k → ∀ wz, Below w.heap.size w wz → ∃ xnum xcu xcr xat xA xn xc xnet xvat xgr xcd, (xcd == (j : Int) + 1) = false ∧ wz.cell? (ad.add (i9 * 9)) = some (Value.int .i64 xnum) ∧ wz.cell? ⟨(ad.add (i9 * 9)).block, (ad.add (i9 * 9)).off + 1, none⟩ = some (Value.string xcu) ∧ wz.cell? ⟨(ad.add (i9 * 9)).block, (ad.add (i9 * 9)).off + 2, none⟩ = some (Value.string xcr) ∧ wz.cell? ⟨(ad.add (i9 * 9)).block, (ad.add (i9 * 9)).off + 3, none⟩ = some (Value.int .i64 xat) ∧ wz.cell? ⟨(ad.add (i9 * 9)).block, (ad.add (i9 * 9)).off + 4, none⟩ = some (Value.slice xA xn xc) ∧ wz.cell? ⟨(ad.add (i9 * 9)).block, (ad.add (i9 * 9)).off + 5, none⟩ = some (Value.int .i64 xnet) ∧ wz.cell? ⟨(ad.add (i9 * 9)).block, (ad.add (i9 * 9)).off + 6, none⟩ = some (Value.int .i64 xvat) ∧ wz.cell? ⟨(ad.add (i9 * 9)).block, (ad.add (i9 * 9)).off + 7, none⟩ = some (Value.int .i64 xgr) ∧ wz.cell? ⟨(ad.add (i9 * 9)).block, (ad.add (i9 * 9)).off + 8, none⟩ = some (Value.int .i64 xcd) := fun j hj i9 hi wz hz => by
    obtain ⟨-, -, ov, -, -, -, -, hcf, -⟩ := hcrd0 (by omega)
    have hil : i9 < L.length := by omega
    obtain ⟨t0, t1, t2, t3, t4, t5, t6, t7, t8⟩ := hLj i9 hil wz hz
    refine ⟨_, _, _, _, _, _, _, _, _, _, _, ?_, t0, t1, t2, t3, t4, t5, t6, t7, t8⟩
    unfold credited at hcf
    rw [List.any_eq_false] at hcf
    have h1 := hcf L[i9].val (List.mem_take_iff_getElem.2 ⟨i9, by rw [List.length_map]; omega, by rw [List.getElem_map]⟩)
    rw [← hj]
    have h2 : ¬ L[i9].credits = vcd := fun e => h1 (decide_eq_true e)
    simpa using h2
  have hcrd : vcd ≠ 0 → ∃ (j : Nat) (oits : List It) (oA : Option Addr) (on oc : Nat) (onum oat onet ovat ogr : Int), vcd = (j : Int) + 1 ∧ j < n ∧ j < k ∧ ImAt w ⟨onum, vcu, vcr, oat, oA, on, oc, oits, onet, ovat, ogr, 0⟩ ∧ (smallI oits = true ∧ oits.length ≤ 64) ∧ vits = oits.map negIt ∧ Hid (∀ wz, Below w.heap.size w wz → wz.cell? (ad.add (j * 9)) = some (Value.int .i64 onum) ∧ wz.cell? ⟨(ad.add (j * 9)).block, (ad.add (j * 9)).off + 1, none⟩ = some (Value.string vcu) ∧ wz.cell? ⟨(ad.add (j * 9)).block, (ad.add (j * 9)).off + 2, none⟩ = some (Value.string vcr) ∧ wz.cell? ⟨(ad.add (j * 9)).block, (ad.add (j * 9)).off + 3, none⟩ = some (Value.int .i64 oat) ∧ wz.cell? ⟨(ad.add (j * 9)).block, (ad.add (j * 9)).off + 4, none⟩ = some (Value.slice oA on oc) ∧ wz.cell? ⟨(ad.add (j * 9)).block, (ad.add (j * 9)).off + 5, none⟩ = some (Value.int .i64 onet) ∧ wz.cell? ⟨(ad.add (j * 9)).block, (ad.add (j * 9)).off + 6, none⟩ = some (Value.int .i64 ovat) ∧ wz.cell? ⟨(ad.add (j * 9)).block, (ad.add (j * 9)).off + 7, none⟩ = some (Value.int .i64 ogr) ∧ wz.cell? ⟨(ad.add (j * 9)).block, (ad.add (j * 9)).off + 8, none⟩ = some (Value.int .i64 0)) := fun q => by
    obtain ⟨c1, c2, ov, ho, o0, ocu, ocr, -, hits⟩ := hcrd0 q
    obtain ⟨j, hj⟩ : ∃ j : Nat, vcd = (j : Int) + 1 := ⟨(vcd - 1).toNat, by omega⟩
    have hjl : j < L.length := by omega
    rw [show (vcd - 1).toNat = j by omega, map_at hjl] at ho
    injection ho with ho
    subst ho
    have hjI := h.at_.at_ (k := j) (by omega)
    have hjs := h.small hjl
    have hjc := hLj j hjl
    generalize L[j] = y at *
    obtain ⟨onum, ocu, ocr, oat, oA, on, oc, oits, onet, ovat, ogr, ocd⟩ := y
    simp only [Im.val] at o0 ocu ocr hits hjI hjs hjc
    subst o0
    subst ocu
    subst ocr
    refine ⟨j, oits, oA, on, oc, onum, oat, onet, ovat, ogr, hj, by omega, by omega, hjI, ⟨hjs.1, hjs.2.2⟩, hits, fun wz hz => hjc wz hz⟩
  clear hcrd0 hLj
  have hvn : vits.length = vn := hv.out.1.len
  obtain ⟨S1, hS1⟩ : ∃ S, S = netS vits := ⟨_, rfl⟩
  obtain ⟨S2, hS2⟩ : ∃ S, S = vatS vits := ⟨_, rfl⟩
  obtain ⟨S3, hS3⟩ : ∃ S, S = grossS vits := ⟨_, rfl⟩
  rw [← hS1] at p7
  rw [← hS2] at p8
  rw [← hS3] at p9
  have hvn1 : 1 ≤ vn := by omega
  have hvn2 : vn ≤ 64 := by omega
  have hc1 : Hid (∀ wz, Calls Try.prog 24 #[.string vcu] wz fun e w' => e = .returned (.bool true) ∧ Below wz.heap.size wz w') := fun wz => by rw [← p4]; exact rname_any vcu wz
  have hc2 : Hid (∀ wz, Calls Try.prog 25 #[.string vcr] wz fun e w' => e = .returned (.bool true) ∧ Below wz.heap.size wz w') := fun wz => by rw [← p5]; exact rcur_any vcr wz
  have hc3 : Hid (∀ wz, Below w.heap.size w wz → Calls Try.prog 27 #[.slice vA vn vc] wz fun e w' => e = .returned (.bool true) ∧ Below wz.heap.size wz w') := fun wz hz => by rw [← p6]; exact modest_any vA vn vc vits wz (hv.out.1.more hz) (by omega)
  have hc4 : Hid (∀ wz, Below w.heap.size w wz → Calls Try.prog 17 #[.slice vA vn vc] wz fun e w' => e = .returned (.tuple #[.int .i64 S1, .int .i64 S2, .int .i64 S3, .int .i64 0]) ∧ Below wz.heap.size wz w') := fun wz hz => by rw [hS1, hS2, hS3]; exact rtotals_any vA vn vc vits wz (hv.out.1.more hz) (by omega) p6
  replace hS1 := Lib.hid hS1
  replace hS2 := Lib.hid hS2
  replace hS3 := Lib.hid hS3
  subst p1
  have p7 := p7.symm
  have p8 := p8.symm
  have p9 := p9.symm
  subst p7
  subst p8
  subst p9
  have dn1 : decide ((vn : Int) < 1) = false := by apply decide_eq_false; omega
  have dn2 : decide ((64 : Int) < (vn : Int)) = false := by apply decide_eq_false; omega
  have dl1 : decide (vat < 0) = false := by apply decide_eq_false; omega
  have dl2 : decide (268435456 < vat) = false := by apply decide_eq_false; omega
  have dnum : (((k : Int) + 1) != ((k : Int) + 1)) = false := by simp
  have hb0 : Below w.heap.size w (w.alloc (.cells #[Value.slice (some ad) n c] 27)) := a1 w _
  have hb : Hid (Below w.heap.size w ((w.alloc (.cells #[Value.slice (some ad) n c] 27)).alloc (.cells #[Value.int .i64 ((k : Int) + 1), Value.string vcu, Value.string vcr, Value.int .i64 vat, Value.slice vA vn vc, Value.int .i64 S1, Value.int .i64 S2, Value.int .i64 S3, Value.int .i64 vcd] 45))) := hb0.alloc hb0.size _
  have hd := Blk.new w 27 #[Value.slice (some ad) n c]
  replace hd := Lib.hid (hd.alloc (.cells #[Value.int .i64 ((k : Int) + 1), Value.string vcu, Value.string vcr, Value.int .i64 vat, Value.slice vA vn vc, Value.int .i64 S1, Value.int .i64 S2, Value.int .i64 S3, Value.int .i64 vcd] 45))
  have hy := Blk.new (w.alloc (.cells #[Value.slice (some ad) n c] 27)) 45 #[Value.int .i64 ((k : Int) + 1), Value.string vcu, Value.string vcr, Value.int .i64 vat, Value.slice vA vn vc, Value.int .i64 S1, Value.int .i64 S2, Value.int .i64 S3, Value.int .i64 vcd]
  rw [show (w.alloc (.cells #[Value.slice (some ad) n c] 27)).heap.size = w.heap.size + 1 by simp] at hy
  replace hy := Lib.hid hy
  clear hb0 p3 p4 p5 p6 hvs hl
  go_enter Try.func37, Try.ntmps37
  go_wp2_with fail
  have hpre2 : Hid (∀ m, k = m + 1 → ∃ y : Int, ((w.alloc (.cells #[Value.slice (some ad) n c] 27)).alloc (.cells #[Value.int .i64 ((k : Int) + 1), Value.string vcu, Value.string vcr, Value.int .i64 vat, Value.slice vA vn vc, Value.int .i64 S1, Value.int .i64 S2, Value.int .i64 S3, Value.int .i64 vcd] 45)).cell? ⟨(ad.add (m * 9)).block, (ad.add (m * 9)).off + 3, none⟩ = some (Value.int .i64 y) ∧ y ≤ vat) := fun m hm => by
    obtain ⟨y, h1, h2⟩ := hpre m hm
    exact ⟨y, cell_alloc (cell_alloc h1 _) _, h2⟩
  clear hpre
  generalize ((w.alloc (.cells #[Value.slice (some ad) n c] 27)).alloc (.cells #[Value.int .i64 ((k : Int) + 1), Value.string vcu, Value.string vcr, Value.int .i64 vat, Value.slice vA vn vc, Value.int .i64 S1, Value.int .i64 S2, Value.int .i64 S3, Value.int .i64 vcd] 45)) = w1 at *
  generalize w.heap.size + 1 = gv at *
  obtain ⟨gd, hgd⟩ : ∃ gd, gd = w.heap.size := ⟨_, rfl⟩
  rw [← hgd] at hd ⊢
  replace hgd := Lib.hid hgd
  obtain ⟨m0, m1, m2, m3, m4, m5, m6, m7, m8⟩ := cells9 (w1) (gv) (Value.int .i64 ((k : Int) + 1)) (Value.string vcu) (Value.string vcr) (Value.int .i64 vat) (Value.slice vA vn vc) (Value.int .i64 S1) (Value.int .i64 S2) (Value.int .i64 S3) (Value.int .i64 vcd) (hy.out)
  have d0 : w1.cell? ⟨gd, 0, none⟩ = some (Value.slice (some ad) n c) := hd.out.cell 0
  by_cases q0 : k = 0
  · subst q0
    clear hpre2
    go_quiet (fail)
    clear d0 m0 m1 m2 m3 m4 m5 m6 m7 m8
    have hb := Lib.hid (below_drewN hb.out nq)
    have hd := Lib.hid (hd.out.drewN nq)
    have hy := Lib.hid (hy.out.drewN nq)
    generalize w1.drewN nq = w1 at hb hd hy ⊢
    obtain ⟨m0, m1, m2, m3, m4, m5, m6, m7, m8⟩ := cells9 (w1) (gv) (Value.int .i64 (((0 : Nat) : Int) + 1)) (Value.string vcu) (Value.string vcr) (Value.int .i64 vat) (Value.slice vA vn vc) (Value.int .i64 S1) (Value.int .i64 S2) (Value.int .i64 S3) (Value.int .i64 vcd) (hy.out)
    have d0 : w1.cell? ⟨gd, 0, none⟩ = some (Value.slice (some ad) n c) := hd.out.cell 0
    go_wp2_with fail
    refine (hc1.out _).mono ?_; rintro e w2 ⟨rfl, hq⟩
    clear d0 m0 m1 m2 m3 m4 m5 m6 m7 m8
    have hb := Lib.hid (hb.out.trans (hq.mono hb.out.size))
    have hd := Lib.hid (hd.out.below hq hd.out.lt)
    have hy := Lib.hid (hy.out.below hq hy.out.lt)
    clear hq
    obtain ⟨m0, m1, m2, m3, m4, m5, m6, m7, m8⟩ := cells9 (w2) (gv) (Value.int .i64 (((0 : Nat) : Int) + 1)) (Value.string vcu) (Value.string vcr) (Value.int .i64 vat) (Value.slice vA vn vc) (Value.int .i64 S1) (Value.int .i64 S2) (Value.int .i64 S3) (Value.int .i64 vcd) (hy.out)
    have d0 : w2.cell? ⟨gd, 0, none⟩ = some (Value.slice (some ad) n c) := hd.out.cell 0
    go_wp2_with fail
    refine (hc2.out _).mono ?_; rintro e w3 ⟨rfl, hq⟩
    clear d0 m0 m1 m2 m3 m4 m5 m6 m7 m8
    have hb := Lib.hid (hb.out.trans (hq.mono hb.out.size))
    have hd := Lib.hid (hd.out.below hq hd.out.lt)
    have hy := Lib.hid (hy.out.below hq hy.out.lt)
    clear hq
    obtain ⟨m0, m1, m2, m3, m4, m5, m6, m7, m8⟩ := cells9 (w3) (gv) (Value.int .i64 (((0 : Nat) : Int) + 1)) (Value.string vcu) (Value.string vcr) (Value.int .i64 vat) (Value.slice vA vn vc) (Value.int .i64 S1) (Value.int .i64 S2) (Value.int .i64 S3) (Value.int .i64 vcd) (hy.out)
    have d0 : w3.cell? ⟨gd, 0, none⟩ = some (Value.slice (some ad) n c) := hd.out.cell 0
    go_wp2_with fail
    refine (hc3.out _ hb.out).mono ?_; rintro e w4 ⟨rfl, hq⟩
    clear d0 m0 m1 m2 m3 m4 m5 m6 m7 m8
    have hb := Lib.hid (hb.out.trans (hq.mono hb.out.size))
    have hd := Lib.hid (hd.out.below hq hd.out.lt)
    have hy := Lib.hid (hy.out.below hq hy.out.lt)
    clear hq
    obtain ⟨m0, m1, m2, m3, m4, m5, m6, m7, m8⟩ := cells9 (w4) (gv) (Value.int .i64 (((0 : Nat) : Int) + 1)) (Value.string vcu) (Value.string vcr) (Value.int .i64 vat) (Value.slice vA vn vc) (Value.int .i64 S1) (Value.int .i64 S2) (Value.int .i64 S3) (Value.int .i64 vcd) (hy.out)
    have d0 : w4.cell? ⟨gd, 0, none⟩ = some (Value.slice (some ad) n c) := hd.out.cell 0
    go_wp2_with fail
    refine (hc4.out _ hb.out).mono ?_; rintro e w5 ⟨rfl, hq⟩
    clear d0 m0 m1 m2 m3 m4 m5 m6 m7 m8
    have hb := Lib.hid (hb.out.trans (hq.mono hb.out.size))
    have hd := Lib.hid (hd.out.below hq hd.out.lt)
    have hy := Lib.hid (hy.out.below hq hy.out.lt)
    clear hq
    generalize w5 = w6 at hb hd hy ⊢
    by_cases q : vcd = 0
    · subst q
      obtain ⟨m0, m1, m2, m3, m4, m5, m6, m7, m8⟩ := cells9 (w6) (gv) (Value.int .i64 (((0 : Nat) : Int) + 1)) (Value.string vcu) (Value.string vcr) (Value.int .i64 vat) (Value.slice vA vn vc) (Value.int .i64 S1) (Value.int .i64 S2) (Value.int .i64 S3) (Value.int .i64 0) (hy.out)
      have d0 : w6.cell? ⟨gd, 0, none⟩ = some (Value.slice (some ad) n c) := hd.out.cell 0
      go_wp2_with fail
      go_ret
      exact ⟨rfl, hb.out⟩
    obtain ⟨j, oits, oA, on, oc, onum, oat, onet, ovat, ogr, hcdj, hj1, hj2, hoI, hos, hits, hoc⟩ := hcrd q
    exact absurd hj2 (Nat.not_lt_zero _)
  obtain ⟨m, rfl⟩ : ∃ m, k = m + 1 := ⟨k - 1, by omega⟩
  obtain ⟨y, hyc, hyl⟩ := hpre2.out m rfl
  have dy : decide (vat < y) = false := by apply decide_eq_false; omega
  have dk : decide ((0 : Int) < (m : Int) + 1) = true := by apply decide_eq_true; omega
  have hm0 : (0 : Int) ≤ m := by omega
  have hm1 : (m : Int) < n := by omega
  go_quiet (fail)
  clear d0 m0 m1 m2 m3 m4 m5 m6 m7 m8
  have hb := Lib.hid (below_drewN hb.out nq)
  have hd := Lib.hid (hd.out.drewN nq)
  have hy := Lib.hid (hy.out.drewN nq)
  generalize w1.drewN nq = w1 at hb hd hy ⊢
  obtain ⟨m0, m1, m2, m3, m4, m5, m6, m7, m8⟩ := cells9 (w1) (gv) (Value.int .i64 (((m + 1 : Nat) : Int) + 1)) (Value.string vcu) (Value.string vcr) (Value.int .i64 vat) (Value.slice vA vn vc) (Value.int .i64 S1) (Value.int .i64 S2) (Value.int .i64 S3) (Value.int .i64 vcd) (hy.out)
  have d0 : w1.cell? ⟨gd, 0, none⟩ = some (Value.slice (some ad) n c) := hd.out.cell 0
  go_wp2_with fail
  refine (hc1.out _).mono ?_; rintro e w2 ⟨rfl, hq⟩
  clear d0 m0 m1 m2 m3 m4 m5 m6 m7 m8
  have hb := Lib.hid (hb.out.trans (hq.mono hb.out.size))
  have hd := Lib.hid (hd.out.below hq hd.out.lt)
  have hy := Lib.hid (hy.out.below hq hy.out.lt)
  clear hq
  obtain ⟨m0, m1, m2, m3, m4, m5, m6, m7, m8⟩ := cells9 (w2) (gv) (Value.int .i64 (((m + 1 : Nat) : Int) + 1)) (Value.string vcu) (Value.string vcr) (Value.int .i64 vat) (Value.slice vA vn vc) (Value.int .i64 S1) (Value.int .i64 S2) (Value.int .i64 S3) (Value.int .i64 vcd) (hy.out)
  have d0 : w2.cell? ⟨gd, 0, none⟩ = some (Value.slice (some ad) n c) := hd.out.cell 0
  go_wp2_with fail
  refine (hc2.out _).mono ?_; rintro e w3 ⟨rfl, hq⟩
  clear d0 m0 m1 m2 m3 m4 m5 m6 m7 m8
  have hb := Lib.hid (hb.out.trans (hq.mono hb.out.size))
  have hd := Lib.hid (hd.out.below hq hd.out.lt)
  have hy := Lib.hid (hy.out.below hq hy.out.lt)
  clear hq
  obtain ⟨m0, m1, m2, m3, m4, m5, m6, m7, m8⟩ := cells9 (w3) (gv) (Value.int .i64 (((m + 1 : Nat) : Int) + 1)) (Value.string vcu) (Value.string vcr) (Value.int .i64 vat) (Value.slice vA vn vc) (Value.int .i64 S1) (Value.int .i64 S2) (Value.int .i64 S3) (Value.int .i64 vcd) (hy.out)
  have d0 : w3.cell? ⟨gd, 0, none⟩ = some (Value.slice (some ad) n c) := hd.out.cell 0
  go_wp2_with fail
  refine (hc3.out _ hb.out).mono ?_; rintro e w4 ⟨rfl, hq⟩
  clear d0 m0 m1 m2 m3 m4 m5 m6 m7 m8
  have hb := Lib.hid (hb.out.trans (hq.mono hb.out.size))
  have hd := Lib.hid (hd.out.below hq hd.out.lt)
  have hy := Lib.hid (hy.out.below hq hy.out.lt)
  clear hq
  obtain ⟨m0, m1, m2, m3, m4, m5, m6, m7, m8⟩ := cells9 (w4) (gv) (Value.int .i64 (((m + 1 : Nat) : Int) + 1)) (Value.string vcu) (Value.string vcr) (Value.int .i64 vat) (Value.slice vA vn vc) (Value.int .i64 S1) (Value.int .i64 S2) (Value.int .i64 S3) (Value.int .i64 vcd) (hy.out)
  have d0 : w4.cell? ⟨gd, 0, none⟩ = some (Value.slice (some ad) n c) := hd.out.cell 0
  go_wp2_with fail
  refine (hc4.out _ hb.out).mono ?_; rintro e w5 ⟨rfl, hq⟩
  clear d0 m0 m1 m2 m3 m4 m5 m6 m7 m8
  have hb := Lib.hid (hb.out.trans (hq.mono hb.out.size))
  have hd := Lib.hid (hd.out.below hq hd.out.lt)
  have hy := Lib.hid (hy.out.below hq hy.out.lt)
  clear hq
  generalize w5 = w6 at hb hd hy ⊢
  by_cases q : vcd = 0
  · subst q
    obtain ⟨m0, m1, m2, m3, m4, m5, m6, m7, m8⟩ := cells9 (w6) (gv) (Value.int .i64 (((m + 1 : Nat) : Int) + 1)) (Value.string vcu) (Value.string vcr) (Value.int .i64 vat) (Value.slice vA vn vc) (Value.int .i64 S1) (Value.int .i64 S2) (Value.int .i64 S3) (Value.int .i64 0) (hy.out)
    have d0 : w6.cell? ⟨gd, 0, none⟩ = some (Value.slice (some ad) n c) := hd.out.cell 0
    go_wp2_with fail
    go_ret
    exact ⟨rfl, hb.out⟩
  obtain ⟨j, oits, oA, on, oc, onum, oat, onet, ovat, ogr, hcdj, hj1, hj2, hoI, hos, hits, hoc⟩ := hcrd q
  subst hcdj
  replace q := Lib.hid q
  have hj0 : (0 : Int) ≤ j := by omega
  have hj3 : (j : Int) < n := by omega
  have dj1 : decide ((j : Int) + 1 < 1) = false := by apply decide_eq_false; omega
  have dj2 : decide (((m + 1 : Nat) : Int) < (j : Int) + 1) = false := by apply decide_eq_false; omega
  have dj3 : ((j : Int) + 1 == 0) = false := by rw [beq_eq_false_iff_ne]; omega
  obtain ⟨m0, m1, m2, m3, m4, m5, m6, m7, m8⟩ := cells9 (w6) (gv) (Value.int .i64 (((m + 1 : Nat) : Int) + 1)) (Value.string vcu) (Value.string vcr) (Value.int .i64 vat) (Value.slice vA vn vc) (Value.int .i64 S1) (Value.int .i64 S2) (Value.int .i64 S3) (Value.int .i64 ((j : Int) + 1)) (hy.out)
  have d0 : w6.cell? ⟨gd, 0, none⟩ = some (Value.slice (some ad) n c) := hd.out.cell 0
  obtain ⟨u0, u1, u2, u3, u4, u5, u6, u7, u8⟩ := hoc.out w6 hb.out
  go_wp2_with fail
  clear d0 m0 m1 m2 m3 m4 m5 m6 m7 m8
  clear u0 u1 u2 u3 u4 u5 u6 u7 u8
  have hb6 : Below w6.heap.size w6 (w6.alloc (.cells #[Value.int .i64 onum, Value.string vcu, Value.string vcr, Value.int .i64 oat, Value.slice oA on oc, Value.int .i64 onet, Value.int .i64 ovat, Value.int .i64 ogr, Value.int .i64 0] 45)) := a1 w6 _
  have hg0 := Lib.hid (Blk.new w6 45 #[Value.int .i64 onum, Value.string vcu, Value.string vcr, Value.int .i64 oat, Value.slice oA on oc, Value.int .i64 onet, Value.int .i64 ovat, Value.int .i64 ogr, Value.int .i64 0])
  have hd := Lib.hid (hd.out.below hb6 hd.out.lt)
  have hy := Lib.hid (hy.out.below hb6 hy.out.lt)
  have hb := Lib.hid (hb.out.trans (hb6.mono hb.out.size))
  clear hb6
  generalize (w6.alloc (.cells #[Value.int .i64 onum, Value.string vcu, Value.string vcr, Value.int .i64 oat, Value.slice oA on oc, Value.int .i64 onet, Value.int .i64 ovat, Value.int .i64 ogr, Value.int .i64 0] 45)) = w8 at *
  obtain ⟨go, hgo⟩ : ∃ go, go = w6.heap.size := ⟨_, rfl⟩
  rw [← hgo] at hg0 ⊢
  replace hgo := Lib.hid hgo
  have hng : Hid (∀ wz, Below w8.heap.size w8 wz → Calls Try.prog 31 #[.slice oA on oc] wz fun e w' => (∃ v, e = .returned v ∧ LOwn itC 7 39 w' wz.heap.size v vits) ∧ Below wz.heap.size wz w') := fun wz hz => by
    rw [hits]
    have hI := hoI.1.more (hb.out.trans (hz.mono hb.out.size))
    exact rnegate_any oA on oc oits wz hI (by have h1 : oits.length = on := hI.len; have := hos.2; omega) hos.1
  have heqs : Hid (∀ wz, Below w8.heap.size w8 wz → ∀ A4 n4 c4, ItAt wz A4 n4 vits → Calls Try.prog 44 #[.slice vA vn vc, .slice A4 n4 c4] wz fun e w' => e = .returned (.bool true) ∧ Below wz.heap.size wz w') := fun wz hz A4 n4 c4 q4 => by
    have hI := hv.out.1.more (hb.out.trans (hz.mono hb.out.size))
    have e1 : vits.length = vn := hI.len
    have e2 := q4.len
    have e3 : n4 = vn := by omega
    rw [e3] at q4 ⊢
    exact sameItems_any vA A4 vn vc c4 vits wz hI q4 (by omega)
  have hcv : Hid (∀ wz, Below w8.heap.size w8 wz → wz.cell? ⟨gv, 1, none⟩ = some (Value.string vcu) ∧ wz.cell? ⟨gv, 2, none⟩ = some (Value.string vcr) ∧ wz.cell? ⟨gv, 4, none⟩ = some (Value.slice vA vn vc) ∧ wz.cell? ⟨gv, 8, none⟩ = some (Value.int .i64 ((j : Int) + 1))) := fun wz hz => by
    have q := hy.out.below hz hy.out.lt
    exact ⟨q.cell 1, q.cell 2, q.cell 4, q.cell 8⟩
  have hco : Hid (∀ wz, Below w8.heap.size w8 wz → wz.cell? ⟨go, 1, none⟩ = some (Value.string vcu) ∧ wz.cell? ⟨go, 2, none⟩ = some (Value.string vcr) ∧ wz.cell? ⟨go, 4, none⟩ = some (Value.slice oA on oc) ∧ wz.cell? ⟨go, 8, none⟩ = some (Value.int .i64 0)) := fun wz hz => by
    have q := hg0.out.below hz hg0.out.lt
    exact ⟨q.cell 1, q.cell 2, q.cell 4, q.cell 8⟩
  clear hg0 hoI hits hos hoc
  replace hel := hel j rfl
  replace hel := Lib.hid hel
  refine RM.region [] [] (F := F37 gd gv go vn vc on oc vA oA vcu vcr vits) (W := fun wz => Below w8.heap.size w8 wz) (R := fun _ => Rb) (S := noS) (G := noG) rfl F37_more (fun _ _ _ _ _ _ _ => trivial) (fun _ _ _ _ _ h => h.elim) (fun _ _ _ _ _ h => h.elim) (by kernel_rfl) (by kernel_rfl) (by kernel_rfl) (by kernel_rfl) (by kernel_rfl) ?_ ?_ ?_ (by kernel_rfl) ?_
  · exact (Below.refl _ _).drew
  · intro t ht
    unfold F37
    split <;> first | trivial | exact rfl | (exact absurd ht (by decide))
  · simp only [List.forall_mem_cons, List.not_mem_nil, false_implies, implies_true, and_true]
    refine ⟨?_, ?_, ?_, ?_, ?_, ?_, ?_, ?_, ?_, ?_, ?_, ?_, ?_, ?_, ?_, ?_, ?_, ?_, ?_, ?_, ?_, ?_, ?_, ?_, ?_, ?_⟩
    · intro a w2 hw _ hf K hK
      have f0 := hf 11 rfl
      simp only [F37] at f0
      clear hf
      obtain ⟨o1, o2, o4, o8⟩ := hco.out w2 hw
      go_simp
      exact hK _ _ _ rfl rfl hw (Below.refl _ _) (fun h => absurd h (by decide))
    · intro a w2 hw _ hf K hK
      have f0 := hf 115 rfl
      simp only [F37] at f0
      clear hf
      obtain ⟨o1, o2, o4, o8⟩ := hco.out w2 hw
      go_simp
      exact hK _ _ _ rfl rfl hw (Below.refl _ _) (fun h => absurd h (by decide))
    · intro a w2 hw _ hf K hK
      have f0 := hf 116 rfl
      simp only [F37] at f0
      clear hf
      go_simp
      exact hK _ _ _ rfl rfl hw (Below.refl _ _) (fun h => absurd h (by decide))
    · intro a w2 hw _ hf K hK
      have f0 := hf 117 rfl
      simp only [F37] at f0
      clear hf
      go_simp
      exact hK _ _ _ rfl rfl hw (Below.refl _ _) (fun h => absurd h (by decide))
    · refine ⟨?_, ?_⟩
      · intro a w2 hw hg hf K hK
        have f0 := hf 11 rfl
        simp only [F37] at f0
        clear hf
        obtain ⟨o1, o2, o4, o8⟩ := hco.out w2 hw
        go_simp
        exact hK _ _ _ rfl rfl hw (Below.refl _ _) (fun h => absurd h (by decide))
      · exact fun v w _ hv hne => absurd hv hne
    · refine ⟨?_, ?_⟩
      · intro a w2 hw hg hf K hK
        have f0 := hf 119 rfl
        simp only [F37] at f0
        clear hf
        obtain ⟨o1, o2, o4, o8⟩ := hco.out w2 hw
        go_simp
        exact hK _ _ _ rfl rfl hw (Below.refl _ _) (fun h => absurd h (by decide))
      · exact fun v w _ hv hne => absurd hv hne
    · refine ⟨?_, ?_⟩
      · intro a w2 hw hg hf K hK
        have f0 := hf 5 rfl
        simp only [F37] at f0
        clear hf
        obtain ⟨v1, v2, v4, v8⟩ := hcv.out w2 hw
        go_simp
        exact hK _ _ _ rfl rfl hw (Below.refl _ _) (fun h => absurd h (by decide))
      · exact fun v w _ hv hne => absurd hv hne
    · refine ⟨?_, ?_⟩
      · intro a w2 hw hg hf K hK
        have f0 := hf 121 rfl
        simp only [F37] at f0
        clear hf
        obtain ⟨v1, v2, v4, v8⟩ := hcv.out w2 hw
        go_simp
        exact hK _ _ _ rfl rfl hw (Below.refl _ _) (fun h => absurd h (by decide))
      · exact fun v w _ hv hne => absurd hv hne
    · refine ⟨?_, ?_⟩
      · intro a w2 hw hg hf K hK
        have f0 := hf 120 rfl
        have f1 := hf 122 rfl
        simp only [F37] at f0 f1
        clear hf
        go_simp
        exact hK _ _ _ rfl rfl hw (Below.refl _ _) (fun h => absurd h (by decide))
      · exact fun v w _ hv hne => absurd hv hne
    · intro a w2 hw _ hf K hK
      have f0 := hf 118 rfl
      have f1 := hf 123 rfl
      simp only [F37] at f0 f1
      clear hf
      go_simp
      exact hK _ _ _ rfl rfl hw (Below.refl _ _) (fun h => absurd h (by decide))
    · intro a w2 hw _ hf K hK
      have f0 := hf 124 rfl
      simp only [F37] at f0
      clear hf
      go_simp
      exact hK _ _ _ rfl rfl hw (Below.refl _ _) (fun h => absurd h (by decide))
    · refine ⟨?_, ?_⟩
      · intro a w2 hw hg hf K hK
        have f0 := hf 11 rfl
        simp only [F37] at f0
        clear hf
        obtain ⟨o1, o2, o4, o8⟩ := hco.out w2 hw
        go_simp
        exact hK _ _ _ rfl rfl hw (Below.refl _ _) (fun h => absurd h (by decide))
      · exact fun v w _ hv hne => absurd hv hne
    · refine ⟨?_, ?_⟩
      · intro a w2 hw hg hf K hK
        have f0 := hf 126 rfl
        simp only [F37] at f0
        clear hf
        obtain ⟨o1, o2, o4, o8⟩ := hco.out w2 hw
        go_simp
        exact hK _ _ _ rfl rfl hw (Below.refl _ _) (fun h => absurd h (by decide))
      · exact fun v w _ hv hne => absurd hv hne
    · refine ⟨?_, ?_⟩
      · intro a w2 hw hg hf K hK
        have f0 := hf 5 rfl
        simp only [F37] at f0
        clear hf
        obtain ⟨v1, v2, v4, v8⟩ := hcv.out w2 hw
        go_simp
        exact hK _ _ _ rfl rfl hw (Below.refl _ _) (fun h => absurd h (by decide))
      · exact fun v w _ hv hne => absurd hv hne
    · refine ⟨?_, ?_⟩
      · intro a w2 hw hg hf K hK
        have f0 := hf 128 rfl
        simp only [F37] at f0
        clear hf
        obtain ⟨v1, v2, v4, v8⟩ := hcv.out w2 hw
        go_simp
        exact hK _ _ _ rfl rfl hw (Below.refl _ _) (fun h => absurd h (by decide))
      · exact fun v w _ hv hne => absurd hv hne
    · refine ⟨?_, ?_⟩
      · intro a w2 hw hg hf K hK
        have f0 := hf 127 rfl
        have f1 := hf 129 rfl
        simp only [F37] at f0 f1
        clear hf
        go_simp
        exact hK _ _ _ rfl rfl hw (Below.refl _ _) (fun h => absurd h (by decide))
      · exact fun v w _ hv hne => absurd hv hne
    · intro a w2 hw _ hf K hK
      have f0 := hf 125 rfl
      have f1 := hf 130 rfl
      simp only [F37] at f0 f1
      clear hf
      go_simp
      exact hK _ _ _ rfl rfl hw (Below.refl _ _) (fun h => absurd h (by decide))
    · intro a w2 hw _ hf K hK
      have f0 := hf 131 rfl
      simp only [F37] at f0
      clear hf
      go_simp
      exact hK _ _ _ rfl rfl hw (Below.refl _ _) (fun h => absurd h (by decide))
    · refine ⟨?_, ?_⟩
      · intro a w2 hw hg hf K hK
        have f0 := hf 5 rfl
        simp only [F37] at f0
        clear hf
        obtain ⟨v1, v2, v4, v8⟩ := hcv.out w2 hw
        go_simp
        exact hK _ _ _ rfl rfl hw (Below.refl _ _) (fun h => absurd h (by decide))
      · exact fun v w _ hv hne => absurd hv hne
    · refine ⟨?_, ?_⟩
      · intro a w2 hw hg hf K hK
        have f0 := hf 133 rfl
        simp only [F37] at f0
        clear hf
        obtain ⟨v1, v2, v4, v8⟩ := hcv.out w2 hw
        go_simp
        exact hK _ _ _ rfl rfl hw (Below.refl _ _) (fun h => absurd h (by decide))
      · exact fun v w _ hv hne => absurd hv hne
    · refine ⟨?_, ?_⟩
      · intro a w2 hw hg hf K hK
        have f0 := hf 11 rfl
        simp only [F37] at f0
        clear hf
        obtain ⟨o1, o2, o4, o8⟩ := hco.out w2 hw
        go_simp
        exact hK _ _ _ rfl rfl hw (Below.refl _ _) (fun h => absurd h (by decide))
      · exact fun v w _ hv hne => absurd hv hne
    · refine ⟨?_, ?_⟩
      · intro a w2 hw hg hf K hK
        have f0 := hf 135 rfl
        simp only [F37] at f0
        clear hf
        obtain ⟨o1, o2, o4, o8⟩ := hco.out w2 hw
        go_simp
        exact hK _ _ _ rfl rfl hw (Below.refl _ _) (fun h => absurd h (by decide))
      · exact fun v w _ hv hne => absurd hv hne
    · refine ⟨?_, ?_⟩
      · intro a w2 hw hg hf K hK
        have f0 := hf 136 rfl
        simp only [F37] at f0
        clear hf
        go_simp
        refine (hng.out w2 hw).mono ?_; rintro e w5 ⟨⟨v9, rfl, hT⟩, hbq⟩
        exact hK _ _ _ rfl (NegT.own hT) (hw.trans (hbq.mono hw.size)) hbq (fun h => absurd h (by decide))
      · exact fun v w _ hv hne => absurd hv hne
    · refine ⟨?_, ?_⟩
      · intro a w2 hw hg hf K hK
        have f0 := hf 134 rfl
        have f1 := hf 137 rfl
        simp only [F37] at f0 f1
        clear hf
        obtain ⟨A4, n4, c4, e4, q4⟩ := f1
        have heq := Lib.hid (heqs.out w2 hw A4 n4 c4 q4)
        clear q4
        go_simp
        refine heq.out.mono ?_; rintro e w5 ⟨rfl, hbq⟩
        exact hK _ _ _ rfl rfl (hw.trans (hbq.mono hw.size)) hbq (fun h => absurd h (by decide))
      · exact fun v w _ hv hne => absurd hv hne
    · refine ⟨?_, ?_⟩
      · intro a w2 hw hg hf K hK
        have f0 := hf 138 rfl
        simp only [F37] at f0
        clear hf
        go_simp
        exact hK _ _ _ rfl rfl hw (Below.refl _ _) (fun h => absurd h (by decide))
      · exact fun v w _ hv hne => absurd hv hne
    · intro a w2 hw _ hf K hK
      have f0 := hf 132 rfl
      have f1 := hf 139 rfl
      simp only [F37] at f0 f1
      clear hf
      go_simp
      exact hK _ _ _ rfl rfl hw (Below.refl _ _) (fun h => absurd h (by decide))
  · intro a' w9 hd hs hw hout hf _
    have h140 := hf 140 rfl
    simp only [F37] at h140
    have e0 : _ = some (_) := hout 0 rfl
    have e1 : _ = some (_) := hout 1 rfl
    have e2 : _ = some (_) := hout 2 rfl
    have e3 : _ = some (_) := hout 3 rfl
    have e4 : _ = some (_) := hout 4 rfl
    have e5 : _ = some (_) := hout 5 rfl
    have e6 : _ = some (_) := hout 6 rfl
    have e7 : _ = some (_) := hout 7 rfl
    have e8 : _ = some (_) := hout 8 rfl
    have e9 : _ = some (_) := hout 9 rfl
    have e10 : _ = some (_) := hout 10 rfl
    have e11 : _ = some (_) := hout 11 rfl
    have e12 : _ = some (_) := hout 12 rfl
    have e13 : _ = some (_) := hout 13 rfl
    have e14 : _ = some (_) := hout 14 rfl
    have e15 : _ = some (_) := hout 15 rfl
    have e16 : _ = some (_) := hout 16 rfl
    have e17 : _ = some (_) := hout 17 rfl
    have e18 : _ = some (_) := hout 18 rfl
    have e19 : _ = some (_) := hout 19 rfl
    have e20 : _ = some (_) := hout 20 rfl
    have e21 : _ = some (_) := hout 21 rfl
    have e22 : _ = some (_) := hout 22 rfl
    have e23 : _ = some (_) := hout 23 rfl
    have e24 : _ = some (_) := hout 24 rfl
    have e25 : _ = some (_) := hout 25 rfl
    have e26 : _ = some (_) := hout 26 rfl
    have e27 : _ = some (_) := hout 27 rfl
    have e28 : _ = some (_) := hout 28 rfl
    have e29 : _ = some (_) := hout 29 rfl
    have e30 : _ = some (_) := hout 30 rfl
    have e31 : _ = some (_) := hout 31 rfl
    have e32 : _ = some (_) := hout 32 rfl
    have e33 : _ = some (_) := hout 33 rfl
    have e34 : _ = some (_) := hout 34 rfl
    have e35 : _ = some (_) := hout 35 rfl
    have e36 : _ = some (_) := hout 36 rfl
    have e37 : _ = some (_) := hout 37 rfl
    have e38 : _ = some (_) := hout 38 rfl
    have e39 : _ = some (_) := hout 39 rfl
    have e40 : _ = some (_) := hout 40 rfl
    have e41 : _ = some (_) := hout 41 rfl
    have e42 : _ = some (_) := hout 42 rfl
    have e43 : _ = some (_) := hout 43 rfl
    have e44 : _ = some (_) := hout 44 rfl
    have e45 : _ = some (_) := hout 45 rfl
    have e46 : _ = some (_) := hout 46 rfl
    have e47 : _ = some (_) := hout 47 rfl
    have e48 : _ = some (_) := hout 48 rfl
    have e49 : _ = some (_) := hout 49 rfl
    have e50 : _ = some (_) := hout 50 rfl
    have e51 : _ = some (_) := hout 51 rfl
    have e52 : _ = some (_) := hout 52 rfl
    have e53 : _ = some (_) := hout 53 rfl
    have e54 : _ = some (_) := hout 54 rfl
    have e55 : _ = some (_) := hout 55 rfl
    have e56 : _ = some (_) := hout 56 rfl
    have e57 : _ = some (_) := hout 57 rfl
    have e58 : _ = some (_) := hout 58 rfl
    have e59 : _ = some (_) := hout 59 rfl
    have e60 : _ = some (_) := hout 60 rfl
    have e61 : _ = some (_) := hout 61 rfl
    have e62 : _ = some (_) := hout 62 rfl
    have e63 : _ = some (_) := hout 63 rfl
    have e64 : _ = some (_) := hout 64 rfl
    have e65 : _ = some (_) := hout 65 rfl
    have e66 : _ = some (_) := hout 66 rfl
    have e67 : _ = some (_) := hout 67 rfl
    have e68 : _ = some (_) := hout 68 rfl
    have e69 : _ = some (_) := hout 69 rfl
    have e70 : _ = some (_) := hout 70 rfl
    have e71 : _ = some (_) := hout 71 rfl
    have e72 : _ = some (_) := hout 72 rfl
    have e73 : _ = some (_) := hout 73 rfl
    have e74 : _ = some (_) := hout 74 rfl
    have e75 : _ = some (_) := hout 75 rfl
    have e76 : _ = some (_) := hout 76 rfl
    have e77 : _ = some (_) := hout 77 rfl
    have e78 : _ = some (_) := hout 78 rfl
    have e79 : _ = some (_) := hout 79 rfl
    have e80 : _ = some (_) := hout 80 rfl
    have e81 : _ = some (_) := hout 81 rfl
    have e82 : _ = some (_) := hout 82 rfl
    have e83 : _ = some (_) := hout 83 rfl
    have e84 : _ = some (_) := hout 84 rfl
    have e85 : _ = some (_) := hout 85 rfl
    have e86 : _ = some (_) := hout 86 rfl
    have e87 : _ = some (_) := hout 87 rfl
    have e88 : _ = some (_) := hout 88 rfl
    have e89 : _ = some (_) := hout 89 rfl
    have e90 : _ = some (_) := hout 90 rfl
    have e91 : _ = some (_) := hout 91 rfl
    have e92 : _ = some (_) := hout 92 rfl
    have e93 : _ = some (_) := hout 93 rfl
    have e94 : _ = some (_) := hout 94 rfl
    have e95 : _ = some (_) := hout 95 rfl
    have e96 : _ = some (_) := hout 96 rfl
    have e97 : _ = some (_) := hout 97 rfl
    have e98 : _ = some (_) := hout 98 rfl
    have e99 : _ = some (_) := hout 99 rfl
    have e100 : _ = some (_) := hout 100 rfl
    have e101 : _ = some (_) := hout 101 rfl
    have e102 : _ = some (_) := hout 102 rfl
    have e103 : _ = some (_) := hout 103 rfl
    have e104 : _ = some (_) := hout 104 rfl
    have e105 : _ = some (_) := hout 105 rfl
    have e106 : _ = some (_) := hout 106 rfl
    have e107 : _ = some (_) := hout 107 rfl
    have e108 : _ = some (_) := hout 108 rfl
    have e109 : _ = some (_) := hout 109 rfl
    have e110 : _ = some (_) := hout 110 rfl
    have e111 : _ = some (_) := hout 111 rfl
    have e112 : _ = some (_) := hout 112 rfl
    have e113 : _ = some (_) := hout 113 rfl
    have e114 : _ = some (_) := hout 114 rfl
    have e141 : _ = some (_) := hout 141 rfl
    have e142 : _ = some (_) := hout 142 rfl
    have e143 : _ = some (_) := hout 143 rfl
    have e144 : _ = some (_) := hout 144 rfl
    have e145 : _ = some (_) := hout 145 rfl
    have e146 : _ = some (_) := hout 146 rfl
    have e147 : _ = some (_) := hout 147 rfl
    have e148 : _ = some (_) := hout 148 rfl
    have e149 : _ = some (_) := hout 149 rfl
    have e150 : _ = some (_) := hout 150 rfl
    have e151 : _ = some (_) := hout 151 rfl
    have e152 : _ = some (_) := hout 152 rfl
    have e153 : _ = some (_) := hout 153 rfl
    have e154 : _ = some (_) := hout 154 rfl
    have e155 : _ = some (_) := hout 155 rfl
    obtain ⟨tm, df⟩ := a'
    simp only at hd hs h140 e0 e1 e2 e3 e4 e5 e6 e7 e8 e9 e10 e11 e12 e13 e14 e15 e16 e17 e18 e19 e20 e21 e22 e23 e24 e25 e26 e27 e28 e29 e30 e31 e32 e33 e34 e35 e36 e37 e38 e39 e40 e41 e42 e43 e44 e45 e46 e47 e48 e49 e50 e51 e52 e53 e54 e55 e56 e57 e58 e59 e60 e61 e62 e63 e64 e65 e66 e67 e68 e69 e70 e71 e72 e73 e74 e75 e76 e77 e78 e79 e80 e81 e82 e83 e84 e85 e86 e87 e88 e89 e90 e91 e92 e93 e94 e95 e96 e97 e98 e99 e100 e101 e102 e103 e104 e105 e106 e107 e108 e109 e110 e111 e112 e113 e114 e141 e142 e143 e144 e145 e146 e147 e148 e149 e150 e151 e152 e153 e154 e155
    have e := F37_lit tm hs
    simp only [h140, e0, e1, e2, e3, e4, e5, e6, e7, e8, e9, e10, e11, e12, e13, e14, e15, e16, e17, e18, e19, e20, e21, e22, e23, e24, e25, e26, e27, e28, e29, e30, e31, e32, e33, e34, e35, e36, e37, e38, e39, e40, e41, e42, e43, e44, e45, e46, e47, e48, e49, e50, e51, e52, e53, e54, e55, e56, e57, e58, e59, e60, e61, e62, e63, e64, e65, e66, e67, e68, e69, e70, e71, e72, e73, e74, e75, e76, e77, e78, e79, e80, e81, e82, e83, e84, e85, e86, e87, e88, e89, e90, e91, e92, e93, e94, e95, e96, e97, e98, e99, e100, e101, e102, e103, e104, e105, e106, e107, e108, e109, e110, e111, e112, e113, e114, e141, e142, e143, e144, e145, e146, e147, e148, e149, e150, e151, e152, e153, e154, e155, Option.getD_some] at e
    clear hf hout hs
    rw [e, hd]
    clear e hd h140 e0 e1 e2 e3 e4 e5 e6 e7 e8 e9 e10 e11 e12 e13 e14 e15 e16 e17 e18 e19 e20 e21 e22 e23 e24 e25 e26 e27 e28 e29 e30 e31 e32 e33 e34 e35 e36 e37 e38 e39 e40 e41 e42 e43 e44 e45 e46 e47 e48 e49 e50 e51 e52 e53 e54 e55 e56 e57 e58 e59 e60 e61 e62 e63 e64 e65 e66 e67 e68 e69 e70 e71 e72 e73 e74 e75 e76 e77 e78 e79 e80 e81 e82 e83 e84 e85 e86 e87 e88 e89 e90 e91 e92 e93 e94 e95 e96 e97 e98 e99 e100 e101 e102 e103 e104 e105 e106 e107 e108 e109 e110 e111 e112 e113 e114 e141 e142 e143 e144 e145 e146 e147 e148 e149 e150 e151 e152 e153 e154 e155
    generalize tm[115]?.getD undef = u115x, tm[116]?.getD undef = u116x, tm[117]?.getD undef = u117x, tm[118]?.getD undef = u118x, tm[119]?.getD undef = u119x, tm[120]?.getD undef = u120x, tm[121]?.getD undef = u121x, tm[122]?.getD undef = u122x, tm[123]?.getD undef = u123x, tm[124]?.getD undef = u124x, tm[125]?.getD undef = u125x, tm[126]?.getD undef = u126x, tm[127]?.getD undef = u127x, tm[128]?.getD undef = u128x, tm[129]?.getD undef = u129x, tm[130]?.getD undef = u130x, tm[131]?.getD undef = u131x, tm[132]?.getD undef = u132x, tm[133]?.getD undef = u133x, tm[134]?.getD undef = u134x, tm[135]?.getD undef = u135x, tm[136]?.getD undef = u136x, tm[137]?.getD undef = u137x, tm[138]?.getD undef = u138x, tm[139]?.getD undef = u139x
    have hb := Lib.hid (hb.out.trans (hw.mono hb.out.size))
    have hd := Lib.hid (hd.out.below hw hd.out.lt)
    have hy := Lib.hid (hy.out.below hw hy.out.lt)
    clear hw hcv hco hng heqs
    generalize w9 = w7 at hb hd hy ⊢
    have hkc : ((m + 1 : Nat) : Int) ≤ c := by omega
    obtain ⟨m0, m1, m2, m3, m4, m5, m6, m7, m8⟩ := cells9 (w7) (gv) (Value.int .i64 (((m + 1 : Nat) : Int) + 1)) (Value.string vcu) (Value.string vcr) (Value.int .i64 vat) (Value.slice vA vn vc) (Value.int .i64 S1) (Value.int .i64 S2) (Value.int .i64 S3) (Value.int .i64 ((j : Int) + 1)) (hy.out)
    have d0 : w7.cell? ⟨gd, 0, none⟩ = some (Value.slice (some ad) n c) := hd.out.cell 0
    go_wp2_with fail
    clear d0 m0 m1 m2 m3 m4 m5 m6 m7 m8
    go_loopw [146] (fun i wr => ∃ i9 : Nat, i9 ≤ (m + 1) ∧ i = .int .i64 i9 ∧ Hid (Blk wr gv 45 #[Value.int .i64 (((m + 1 : Nat) : Int) + 1), Value.string vcu, Value.string vcr, Value.int .i64 vat, Value.slice vA vn vc, Value.int .i64 S1, Value.int .i64 S2, Value.int .i64 S3, Value.int .i64 ((j : Int) + 1)]) ∧ Hid (Below w.heap.size w wr)) (fun i _ => (m + 1) - (intOf i).toNat)
    case atStart => exact ⟨0, Nat.zero_le _, rfl, hy.out, hb.out⟩
    case round =>
      clear hy hb hd
      obtain ⟨i9, hik, rfl, hy, hb⟩ := hrel
      by_cases hlt : i9 < (m + 1)
      · have hi0 : (0 : Int) ≤ i9 := by omega
        have hi1 : (i9 : Int) < (m + 1) := by omega
        obtain ⟨xnum, xcu, xcr, xat, xA, xn, xc, xnet, xvat, xgr, xcd, hxc, x0, x1, x2, x3, x4, x5, x6, x7, x8⟩ := hel.out i9 hlt wr hb.out
        have dx : (xcd == (j : Int) + 1) = false := hxc
        have hgv := hy.out.lt
        have hy2 := hy.out.alloc (.cells #[Value.int .i64 xnum, Value.string xcu, Value.string xcr, Value.int .i64 xat, Value.slice xA xn xc, Value.int .i64 xnet, Value.int .i64 xvat, Value.int .i64 xgr, Value.int .i64 xcd] 45)
        have hz2 := Blk.new wr 45 #[Value.int .i64 xnum, Value.string xcu, Value.string xcr, Value.int .i64 xat, Value.slice xA xn xc, Value.int .i64 xnet, Value.int .i64 xvat, Value.int .i64 xgr, Value.int .i64 xcd]
        obtain ⟨m0, m1, m2, m3, m4, m5, m6, m7, m8⟩ := cells9 ((wr.alloc (.cells #[Value.int .i64 xnum, Value.string xcu, Value.string xcr, Value.int .i64 xat, Value.slice xA xn xc, Value.int .i64 xnet, Value.int .i64 xvat, Value.int .i64 xgr, Value.int .i64 xcd] 45))) (gv) (Value.int .i64 (((m + 1 : Nat) : Int) + 1)) (Value.string vcu) (Value.string vcr) (Value.int .i64 vat) (Value.slice vA vn vc) (Value.int .i64 S1) (Value.int .i64 S2) (Value.int .i64 S3) (Value.int .i64 ((j : Int) + 1)) (hy2)
        obtain ⟨t0, t1, t2, t3, t4, t5, t6, t7, t8⟩ := cells9 ((wr.alloc (.cells #[Value.int .i64 xnum, Value.string xcu, Value.string xcr, Value.int .i64 xat, Value.slice xA xn xc, Value.int .i64 xnet, Value.int .i64 xvat, Value.int .i64 xgr, Value.int .i64 xcd] 45))) (wr.heap.size) (Value.int .i64 xnum) (Value.string xcu) (Value.string xcr) (Value.int .i64 xat) (Value.slice xA xn xc) (Value.int .i64 xnet) (Value.int .i64 xvat) (Value.int .i64 xgr) (Value.int .i64 xcd) (hz2)
        replace hy2 := Lib.hid hy2
        have hb2 : Hid (Below w.heap.size w (wr.alloc (.cells #[Value.int .i64 xnum, Value.string xcu, Value.string xcr, Value.int .i64 xat, Value.slice xA xn xc, Value.int .i64 xnet, Value.int .i64 xvat, Value.int .i64 xgr, Value.int .i64 xcd] 45))) := hb.out.alloc hb.out.size _
        clear hz2
        go_wp2_with fail
        go_roundw
        case rel => exact ⟨i9 + 1, by omega, by go_num, hy2.out, hb2.out⟩
        case measure => simp [intOf]; omega
      · go_wp2_with fail
        go_ret
        exact ⟨rfl, hb.out⟩
set_option maxRecDepth 100000 in
set_option maxHeartbeats 8000000 in
theorem rvalid_any (A : Option Addr) (n c : Nat) (L : List Im) (w : World) (h : GoodM w A n c L) : Calls Try.prog 23 #[.agg #[Value.slice A n c]] w fun e w' => e = .returned (.int .i64 0) ∧ Below w.heap.size w w' := by
  have hn := h.n256
  have hl := Lib.hid h.at_.len
  have hc : Hid (∀ (k : Nat) (x : Im), L[k]? = some x → ∀ wz, Below w.heap.size w wz → Calls Try.prog 37 #[.agg #[Value.slice A n c], .int .i64 k, ivV x] wz fun e w' => e = .returned (.int .i64 0) ∧ Below wz.heap.size wz w') := fun k x hx wz hz => by
    obtain ⟨hkl, rfl⟩ := List.getElem?_eq_some_iff.1 hx
    exact one_any A n c L k wz (h.more hz) (by rw [← h.at_.len]; exact hkl)
  have dn : decide ((256 : Int) < (n : Int)) = false := by apply decide_eq_false; omega
  have hx1 := Blk.new w 27 #[Value.slice A n c]
  have b0 : ((w.alloc (.cells #[Value.slice A n c] 27))).cell? ⟨w.heap.size, 0, none⟩ = some (Value.slice A n c) := (hx1).cell 0
  have hb0 : Hid (Below w.heap.size w (w.alloc (.cells #[Value.slice A n c] 27))) := a1 w _
  replace hx1 := Lib.hid hx1
  replace h := Lib.hid h
  go_enter Try.func23, Try.ntmps23
  go_wp2_with fail
  clear b0
  generalize (w.alloc (.cells #[Value.slice A n c] 27)) = w0 at *
  go_loopw [13] (fun i wr => ∃ k : Nat, k ≤ n ∧ i = .int .i64 k ∧ Hid (Blk wr w.heap.size 27 #[Value.slice A n c]) ∧ Hid (Below w.heap.size w wr)) (fun i _ => n - (intOf i).toNat)
  case atStart => exact ⟨0, Nat.zero_le _, rfl, hx1.out, hb0.out⟩
  case round =>
    clear hx1 hb0
    obtain ⟨k, hkn, rfl, hx, hb⟩ := hrel
    by_cases hlt : k < n
    · have hk1 : (k : Int) < n := by omega
      have hk0 : (0 : Int) ≤ k := by omega
      have hkl : k < L.length := by have := hl.out; omega
      obtain ⟨ad, hA, -, e0, e1, e2, e3, e4, e5, e6, e7, e8⟩ := iv_cells (h.out.more hb.out).at_.row hlt
      have hwl : w.heap.size < wr.heap.size := hx.out.lt
      have hck := hc.out k L[k] (List.getElem?_eq_getElem hkl)
      generalize L[k] = x at *
      obtain ⟨xnum, xcu, xcr, xat, xA, xn, xc, xits, xnet, xvat, xgr, xcd⟩ := x
      simp only [ivV] at e0 e1 e2 e3 e4 e5 e6 e7 e8 hck
      subst hA
      replace hck := Lib.hid hck
      have hb2 : Hid (Below w.heap.size w (wr.alloc (.cells #[Value.int .i64 xnum, Value.string xcu, Value.string xcr, Value.int .i64 xat, Value.slice xA xn xc, Value.int .i64 xnet, Value.int .i64 xvat, Value.int .i64 xgr, Value.int .i64 xcd] 45))) := hb.out.alloc hb.out.size _
      have hx2 := hx.out.alloc (.cells #[Value.int .i64 xnum, Value.string xcu, Value.string xcr, Value.int .i64 xat, Value.slice xA xn xc, Value.int .i64 xnet, Value.int .i64 xvat, Value.int .i64 xgr, Value.int .i64 xcd] 45)
      have b0 : ((wr.alloc (.cells #[Value.int .i64 xnum, Value.string xcu, Value.string xcr, Value.int .i64 xat, Value.slice xA xn xc, Value.int .i64 xnet, Value.int .i64 xvat, Value.int .i64 xgr, Value.int .i64 xcd] 45))).cell? ⟨w.heap.size, 0, none⟩ = some (Value.slice (some ad) n c) := (hx2).cell 0
      have hy := Blk.new wr 45 #[Value.int .i64 xnum, Value.string xcu, Value.string xcr, Value.int .i64 xat, Value.slice xA xn xc, Value.int .i64 xnet, Value.int .i64 xvat, Value.int .i64 xgr, Value.int .i64 xcd]
      obtain ⟨t0, t1, t2, t3, t4, t5, t6, t7, t8⟩ := cells9 ((wr.alloc (.cells #[Value.int .i64 xnum, Value.string xcu, Value.string xcr, Value.int .i64 xat, Value.slice xA xn xc, Value.int .i64 xnet, Value.int .i64 xvat, Value.int .i64 xgr, Value.int .i64 xcd] 45))) (wr.heap.size) (Value.int .i64 xnum) (Value.string xcu) (Value.string xcr) (Value.int .i64 xat) (Value.slice xA xn xc) (Value.int .i64 xnet) (Value.int .i64 xvat) (Value.int .i64 xgr) (Value.int .i64 xcd) (hy)
      replace hx2 := Lib.hid hx2
      clear hy
      go_wp2_with fail
      refine (hck.out _ hb2.out).mono ?_; rintro e w2 ⟨rfl, hq⟩
      have hx := Lib.hid (hx2.out.below hq hx2.out.lt)
      have hb := Lib.hid (hb2.out.trans (hq.mono hb2.out.size))
      clear b0 hq t0 t1 t2 t3 t4 t5 t6 t7 t8
      go_wp2_with fail
      go_roundw
      case rel => exact ⟨k + 1, by omega, by go_num, hx.out, hb.out⟩
      case measure => simp [intOf]; omega
    · go_wp2_with fail
      go_ret
      exact ⟨rfl, hb.out⟩
end Go.Proofs.Ytadgdbakgmjekaa
