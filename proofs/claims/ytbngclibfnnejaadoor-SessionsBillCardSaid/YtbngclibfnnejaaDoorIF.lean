/- Invoices: a valid book passes the program's checks. -/
import Derived.Test.YtbngclibfnnejaaDoorIE
set_option linter.unusedVariables false
set_option linter.unusedSimpArgs false
namespace Go.Proofs.YtbngclibfnnejaaDoor
open Go.RowKit
/-- a slice of items -/
def NegT (l : List It) (v : Value) (w : World) : Prop := ∃ A n c, v = .slice A n c ∧ ItAt w A n l
theorem NegT.more {l : List It} {v : Value} {w w' : World} (h : NegT l v w) (hb : Below w.heap.size w w') : NegT l v w' := by
  obtain ⟨A, n, c, h1, h2⟩ := h
  exact ⟨A, n, c, h1, h2.more hb⟩
theorem NegT.own {l : List It} {v : Value} {w : World} {base : Nat} (h : LOwn itC 7 90 w base v l) : NegT l v w := by
  obtain ⟨A, c, rfl, -, -, -, h2⟩ := h.form
  exact ⟨A, l.length, c, rfl, h2⟩
theorem lit_arr (tm : Array Value) (n : Nat) (h : tm.size = n) : tm = ((List.range n).map fun i => tm[i]?.getD undef).toArray := by
  subst h
  apply Array.ext'
  apply List.ext_getElem?
  intro i
  simp only [Array.getElem?_toList, List.getElem?_map]
  by_cases hi : i < tm.size
  · rw [List.getElem?_eq_getElem (by simpa using hi)]
    simp [hi]
  · rw [List.getElem?_eq_none (by simpa using hi)]
    simp [hi]
theorem BkAt.at_ {w : World} {A : Option Addr} {n c k : Nat} {L : List Im} (h : BkAt w A n c L) (hk : k < n) : ImAt w (L[k]'(by rw [h.len]; exact hk)) := h.its _ (List.getElem_mem _)
theorem map_at {L : List Im} {k : Nat} (hk : k < L.length) : (L.map Im.val)[k]? = some L[k].val := by rw [List.getElem?_map, List.getElem?_eq_getElem hk]; rfl
/-- a valid book -/
structure GoodM (w : World) (A : Option Addr) (n c : Nat) (L : List Im) : Prop where
  at_ : BkAt w A n c L
  ok : validB (L.map Im.val) = 0
theorem GoodM.more {w w' : World} {A : Option Addr} {n c : Nat} {L : List Im} (h : GoodM w A n c L) (hb : Below w.heap.size w w') : GoodM w' A n c L := ⟨h.at_.more hb, h.ok⟩
theorem GoodM.n256 {w : World} {A : Option Addr} {n c : Nat} {L : List Im} (h : GoodM w A n c L) : n ≤ 256 := by
  have := valid_len h.ok
  rw [List.length_map, h.at_.len] at this
  exact this
theorem GoodM.parts {w : World} {A : Option Addr} {n c k : Nat} {L : List Im} (h : GoodM w A n c L) (hk : k < L.length) : checkE (L.map Im.val) k L[k].val = 0 := valid_at h.ok (map_at hk)
theorem GoodM.small {w : World} {A : Option Addr} {n c k : Nat} {L : List Im} (h : GoodM w A n c L) (hk : k < L.length) : smallI L[k].items = true ∧ 1 ≤ L[k].items.length ∧ L[k].items.length ≤ 64 := by
  obtain ⟨-, -, h3, -, -, h6, -⟩ := check_parts (h.parts hk)
  exact ⟨h6, (lines_iff _).1 h3⟩
def F39 (gd gv go k n c j vn vc on oc : Nat) (ad : Addr) (vA oA : Option Addr) (vcu vcr : ByteArray) (its : List It) : Tmp → Value → World → Prop
  | 1, v, _ => v = .int .i64 (k : Int)
  | 2, v, _ => v = .pointer (some ⟨gd, 0, none⟩)
  | 4, v, _ => v = .bool true
  | 5, v, _ => v = .pointer (some ⟨gv, 0, none⟩)
  | 6, v, _ => v = .pointer (some ⟨go, 0, none⟩)
  | 33, v, _ => v = .pointer (some ⟨go, 8, none⟩)
  | 34, v, _ => v = .int .i64 0
  | 35, v, _ => v = .bool true
  | 36, v, _ => v = .bool true
  | 37, v, _ => v = .pointer (some ⟨go, 1, none⟩)
  | 38, v, _ => v = .string vcu
  | 39, v, _ => v = .pointer (some ⟨gv, 1, none⟩)
  | 40, v, _ => v = .string vcu
  | 41, v, _ => v = .bool true
  | 42, v, _ => v = .bool true
  | 43, v, _ => v = .bool true
  | 44, v, _ => v = .pointer (some ⟨go, 2, none⟩)
  | 45, v, _ => v = .string vcr
  | 46, v, _ => v = .pointer (some ⟨gv, 2, none⟩)
  | 47, v, _ => v = .string vcr
  | 48, v, _ => v = .bool true
  | 49, v, _ => v = .bool true
  | 50, v, _ => v = .bool true
  | 51, v, _ => v = .agg #[Value.slice (some ad) n c]
  | 52, v, _ => v = .pointer (some ⟨gv, 8, none⟩)
  | 53, v, _ => v = .int .i64 ((j : Int) + 1)
  | 54, v, _ => v = .int .i64 (k : Int)
  | 55, v, _ => v = .bool false
  | 56, v, _ => v = .bool true
  | 57, v, _ => v = .bool true
  | 58, v, _ => v = .bool true
  | 59, v, _ => v = .pointer (some ⟨gv, 4, none⟩)
  | 60, v, _ => v = .slice vA vn vc
  | 61, v, _ => v = .pointer (some ⟨go, 4, none⟩)
  | 62, v, _ => v = .slice oA on oc
  | 63, v, w => NegT its v w
  | 64, v, _ => v = .bool true
  | 65, v, _ => v = .bool true
  | _, _, _ => True
theorem F39_more {gd gv go k n c j vn vc on oc : Nat} {ad : Addr} {vA oA : Option Addr} {vcu vcr : ByteArray} {its : List It} (d t : Tmp) (v : Value) (w w' : World) (hR : Rb w w') (hne : t ≠ d) (hc : ([] : List (Tmp × Tmp)).contains (d, t) = false) (h : F39 gd gv go k n c j vn vc on oc ad vA oA vcu vcr its t v w) : F39 gd gv go k n c j vn vc on oc ad vA oA vcu vcr its t v w' := by
  unfold F39 at *
  split at h <;> first | exact h | exact NegT.more h hR | exact fun hg => NegT.more (h hg) hR
theorem F39_lit (tm : Array Value) (hs : tm.size = 66) : tm = #[tm[0]?.getD undef, tm[1]?.getD undef, tm[2]?.getD undef, tm[3]?.getD undef, tm[4]?.getD undef, tm[5]?.getD undef, tm[6]?.getD undef, tm[7]?.getD undef, tm[8]?.getD undef, tm[9]?.getD undef, tm[10]?.getD undef, tm[11]?.getD undef, tm[12]?.getD undef, tm[13]?.getD undef, tm[14]?.getD undef, tm[15]?.getD undef, tm[16]?.getD undef, tm[17]?.getD undef, tm[18]?.getD undef, tm[19]?.getD undef, tm[20]?.getD undef, tm[21]?.getD undef, tm[22]?.getD undef, tm[23]?.getD undef, tm[24]?.getD undef, tm[25]?.getD undef, tm[26]?.getD undef, tm[27]?.getD undef, tm[28]?.getD undef, tm[29]?.getD undef, tm[30]?.getD undef, tm[31]?.getD undef, tm[32]?.getD undef, tm[33]?.getD undef, tm[34]?.getD undef, tm[35]?.getD undef, tm[36]?.getD undef, tm[37]?.getD undef, tm[38]?.getD undef, tm[39]?.getD undef, tm[40]?.getD undef, tm[41]?.getD undef, tm[42]?.getD undef, tm[43]?.getD undef, tm[44]?.getD undef, tm[45]?.getD undef, tm[46]?.getD undef, tm[47]?.getD undef, tm[48]?.getD undef, tm[49]?.getD undef, tm[50]?.getD undef, tm[51]?.getD undef, tm[52]?.getD undef, tm[53]?.getD undef, tm[54]?.getD undef, tm[55]?.getD undef, tm[56]?.getD undef, tm[57]?.getD undef, tm[58]?.getD undef, tm[59]?.getD undef, tm[60]?.getD undef, tm[61]?.getD undef, tm[62]?.getD undef, tm[63]?.getD undef, tm[64]?.getD undef, tm[65]?.getD undef] := lit_arr tm 66 hs
set_option maxRecDepth 100000 in
set_option maxHeartbeats 8000000 in
theorem credits_any (A : Option Addr) (n c : Nat) (L : List Im) (k : Nat) (w : World) (h : GoodM w A n c L) (hk : k < n) : Calls Tryd.prog 52 #[.agg #[Value.slice A n c], .int .i64 k] w fun e w' => e = .returned (.bool true) ∧ Below w.heap.size w w' := by
  have hl := h.at_.len
  have hkl : k < L.length := by omega
  have hn := h.n256
  have hcap := h.at_.cap
  have hcr0 := (check_parts (h.parts hkl)).2.2.2.2.2.2.2.2.2
  obtain ⟨ad, hA, -, e0, e1, e2, e3, e4, e5, e6, e7, e8⟩ := iv_cells h.at_.row hk
  subst hA
  have hv := h.at_.at_ hk
  have hvs := h.small hkl
  have hk0 : (0 : Int) ≤ k := by omega
  have hk1 : (k : Int) < n := by omega
  by_cases q : L[k].credits = 0
  · generalize L[k] = x at *
    obtain ⟨vnum, vcu, vcr, vat, vA, vn, vc, vits, vnet, vvat, vgr, vcd⟩ := x
    simp only at e0 e1 e2 e3 e4 e5 e6 e7 e8 q
    subst q
    have hb0 := Lib.hid (a1 w (.cells #[Value.slice (some ad) n c] 95))
    have hb1 : Hid (Below w.heap.size w ((w.alloc (.cells #[Value.slice (some ad) n c] 95)).alloc (.cells #[Value.int .i64 vnum, Value.string vcu, Value.string vcr, Value.int .i64 vat, Value.slice vA vn vc, Value.int .i64 vnet, Value.int .i64 vvat, Value.int .i64 vgr, Value.int .i64 0] 100))) := (a1 w _).alloc (by simp) _
    have hd := Blk.new w 95 #[Value.slice (some ad) n c]
    have d0 : ((w.alloc (.cells #[Value.slice (some ad) n c] 95))).cell? ⟨w.heap.size, 0, none⟩ = some (Value.slice (some ad) n c) := (hd).cell 0
    clear hd
    obtain ⟨k0, k1, k2, k3, k4, k5, k6, k7, k8⟩ := (show (w.alloc (.cells #[Value.slice (some ad) n c] 95)).cell? (ad.add (k * 9)) = some (Value.int .i64 vnum) ∧ (w.alloc (.cells #[Value.slice (some ad) n c] 95)).cell? ⟨(ad.add (k * 9)).block, (ad.add (k * 9)).off + 1, none⟩ = some (Value.string vcu) ∧ (w.alloc (.cells #[Value.slice (some ad) n c] 95)).cell? ⟨(ad.add (k * 9)).block, (ad.add (k * 9)).off + 2, none⟩ = some (Value.string vcr) ∧ (w.alloc (.cells #[Value.slice (some ad) n c] 95)).cell? ⟨(ad.add (k * 9)).block, (ad.add (k * 9)).off + 3, none⟩ = some (Value.int .i64 vat) ∧ (w.alloc (.cells #[Value.slice (some ad) n c] 95)).cell? ⟨(ad.add (k * 9)).block, (ad.add (k * 9)).off + 4, none⟩ = some (Value.slice vA vn vc) ∧ (w.alloc (.cells #[Value.slice (some ad) n c] 95)).cell? ⟨(ad.add (k * 9)).block, (ad.add (k * 9)).off + 5, none⟩ = some (Value.int .i64 vnet) ∧ (w.alloc (.cells #[Value.slice (some ad) n c] 95)).cell? ⟨(ad.add (k * 9)).block, (ad.add (k * 9)).off + 6, none⟩ = some (Value.int .i64 vvat) ∧ (w.alloc (.cells #[Value.slice (some ad) n c] 95)).cell? ⟨(ad.add (k * 9)).block, (ad.add (k * 9)).off + 7, none⟩ = some (Value.int .i64 vgr) ∧ (w.alloc (.cells #[Value.slice (some ad) n c] 95)).cell? ⟨(ad.add (k * 9)).block, (ad.add (k * 9)).off + 8, none⟩ = some (Value.int .i64 0) from ⟨cell_alloc e0 _, cell_alloc e1 _, cell_alloc e2 _, cell_alloc e3 _, cell_alloc e4 _, cell_alloc e5 _, cell_alloc e6 _, cell_alloc e7 _, cell_alloc e8 _⟩)
    have hy := Blk.new (w.alloc (.cells #[Value.slice (some ad) n c] 95)) 100 #[Value.int .i64 vnum, Value.string vcu, Value.string vcr, Value.int .i64 vat, Value.slice vA vn vc, Value.int .i64 vnet, Value.int .i64 vvat, Value.int .i64 vgr, Value.int .i64 0]
    rw [show (w.alloc (.cells #[Value.slice (some ad) n c] 95)).heap.size = w.heap.size + 1 by simp] at hy
    obtain ⟨m0, m1, m2, m3, m4, m5, m6, m7, m8⟩ := cells9 (((w.alloc (.cells #[Value.slice (some ad) n c] 95)).alloc (.cells #[Value.int .i64 vnum, Value.string vcu, Value.string vcr, Value.int .i64 vat, Value.slice vA vn vc, Value.int .i64 vnet, Value.int .i64 vvat, Value.int .i64 vgr, Value.int .i64 0] 100))) ((w.heap.size + 1)) (Value.int .i64 vnum) (Value.string vcu) (Value.string vcr) (Value.int .i64 vat) (Value.slice vA vn vc) (Value.int .i64 vnet) (Value.int .i64 vvat) (Value.int .i64 vgr) (Value.int .i64 0) (hy)
    clear hy e0 e1 e2 e3 e4 e5 e6 e7 e8
    go_enter Tryd.func52, Tryd.ntmps52
    go_wp2_with fail
    go_ret
    exact ⟨rfl, hb1.out⟩
  obtain ⟨c1, c2, ov, ho, o0, ocu, ocr, hcrd, hits⟩ := credits_parts hcr0 q
  obtain ⟨j, hj⟩ : ∃ j : Nat, L[k].credits = (j : Int) + 1 := ⟨(L[k].credits - 1).toNat, by have : 1 ≤ L[k].credits := c1; omega⟩
  have hjk : j < k := by have h2 : L[k].credits ≤ (k : Int) := c2; omega
  have hjn : j < n := by omega
  have hjl : j < L.length := by omega
  have hov : ov = L[j].val := by
    rw [show (L[k].val.credits - 1).toNat = j by show (L[k].credits - 1).toNat = j; omega, map_at hjl] at ho
    injection ho with ho
    exact ho.symm
  subst hov
  obtain ⟨ad', hA', -, t0, t1, t2, t3, t4, t5, t6, t7, t8⟩ := iv_cells h.at_.row hjn
  injection hA' with hA'
  subst hA'
  have hvo := h.at_.at_ hjn
  have hvos := h.small hjl
  have hcrd0 := Lib.hid (fun wz (hz : Below w.heap.size w wz) => credited_any (some ad) n c L ((j : Int) + 1) k wz ((h.more hz).at_.row) (by omega) hcap.1 (by omega))
  rw [show credited ((j : Int) + 1) ((L.map Im.val).take k) = false by rw [← hj]; exact hcrd] at hcrd0
  replace o0 : L[j].credits = 0 := o0
  replace ocu : L[j].cust = L[k].cust := ocu
  replace ocr : L[j].cur = L[k].cur := ocr
  replace hits : L[k].items = L[j].items.map negIt := hits
  clear hcr0 c1 c2 ho q hcrd
  have hws : Hid (GoodM w (some ad) n c L) := h
  have hl2 : Hid (L.length = n) := hl
  generalize L[k] = x at *
  generalize L[j] = y at *
  obtain ⟨vnum, vcu, vcr, vat, vA, vn, vc, vits, vnet, vvat, vgr, vcd⟩ := x
  obtain ⟨onum, ocu, ocr, oat, oA, on, oc, oits, onet, ovat, ogr, ocd⟩ := y
  simp only at e0 e1 e2 e3 e4 e5 e6 e7 e8 t0 t1 t2 t3 t4 t5 t6 t7 t8 hj o0 ocu ocr hits hvs hvos
  subst hj
  subst o0
  obtain ocu := ocu.symm
  obtain ocr := ocr.symm
  subst ocu
  subst ocr
  have hj0 : (0 : Int) ≤ j := by omega
  have hj1 : (j : Int) < n := by omega
  have hj2 : (j : Int) + 1 ≤ k := by omega
  have dj1 : decide ((j : Int) + 1 < 1) = false := by apply decide_eq_false; omega
  have dj2 : decide ((k : Int) < (j : Int) + 1) = false := by apply decide_eq_false; omega
  have dj3 : ((j : Int) + 1 == 0) = false := by rw [beq_eq_false_iff_ne]; omega
  have hb0 : Below w.heap.size w (w.alloc (.cells #[Value.slice (some ad) n c] 95)) := a1 w _
  have hb1 : Below w.heap.size w ((w.alloc (.cells #[Value.slice (some ad) n c] 95)).alloc (.cells #[Value.int .i64 vnum, Value.string vcu, Value.string vcr, Value.int .i64 vat, Value.slice vA vn vc, Value.int .i64 vnet, Value.int .i64 vvat, Value.int .i64 vgr, Value.int .i64 ((j : Int) + 1)] 100)) := hb0.alloc hb0.size _
  have hb4 : Hid (Below w.heap.size w (((w.alloc (.cells #[Value.slice (some ad) n c] 95)).alloc (.cells #[Value.int .i64 vnum, Value.string vcu, Value.string vcr, Value.int .i64 vat, Value.slice vA vn vc, Value.int .i64 vnet, Value.int .i64 vvat, Value.int .i64 vgr, Value.int .i64 ((j : Int) + 1)] 100)).alloc (.cells #[Value.int .i64 onum, Value.string vcu, Value.string vcr, Value.int .i64 oat, Value.slice oA on oc, Value.int .i64 onet, Value.int .i64 ovat, Value.int .i64 ogr, Value.int .i64 0] 100))) := hb1.alloc hb1.size _
  have hd := Blk.new w 95 #[Value.slice (some ad) n c]
  have d0 : ((w.alloc (.cells #[Value.slice (some ad) n c] 95))).cell? ⟨w.heap.size, 0, none⟩ = some (Value.slice (some ad) n c) := (hd).cell 0
  have hd2 := hd.alloc (.cells #[Value.int .i64 vnum, Value.string vcu, Value.string vcr, Value.int .i64 vat, Value.slice vA vn vc, Value.int .i64 vnet, Value.int .i64 vvat, Value.int .i64 vgr, Value.int .i64 ((j : Int) + 1)] 100)
  have d1 : ((w.alloc (.cells #[Value.slice (some ad) n c] 95)).alloc (.cells #[Value.int .i64 vnum, Value.string vcu, Value.string vcr, Value.int .i64 vat, Value.slice vA vn vc, Value.int .i64 vnet, Value.int .i64 vvat, Value.int .i64 vgr, Value.int .i64 ((j : Int) + 1)] 100)).cell? ⟨w.heap.size, 0, none⟩ = some (Value.slice (some ad) n c) := hd2.cell 0
  have hd3 := Lib.hid (hd2.alloc (.cells #[Value.int .i64 onum, Value.string vcu, Value.string vcr, Value.int .i64 oat, Value.slice oA on oc, Value.int .i64 onet, Value.int .i64 ovat, Value.int .i64 ogr, Value.int .i64 0] 100))
  obtain ⟨k0, k1, k2, k3, k4, k5, k6, k7, k8⟩ := (show (w.alloc (.cells #[Value.slice (some ad) n c] 95)).cell? (ad.add (k * 9)) = some (Value.int .i64 vnum) ∧ (w.alloc (.cells #[Value.slice (some ad) n c] 95)).cell? ⟨(ad.add (k * 9)).block, (ad.add (k * 9)).off + 1, none⟩ = some (Value.string vcu) ∧ (w.alloc (.cells #[Value.slice (some ad) n c] 95)).cell? ⟨(ad.add (k * 9)).block, (ad.add (k * 9)).off + 2, none⟩ = some (Value.string vcr) ∧ (w.alloc (.cells #[Value.slice (some ad) n c] 95)).cell? ⟨(ad.add (k * 9)).block, (ad.add (k * 9)).off + 3, none⟩ = some (Value.int .i64 vat) ∧ (w.alloc (.cells #[Value.slice (some ad) n c] 95)).cell? ⟨(ad.add (k * 9)).block, (ad.add (k * 9)).off + 4, none⟩ = some (Value.slice vA vn vc) ∧ (w.alloc (.cells #[Value.slice (some ad) n c] 95)).cell? ⟨(ad.add (k * 9)).block, (ad.add (k * 9)).off + 5, none⟩ = some (Value.int .i64 vnet) ∧ (w.alloc (.cells #[Value.slice (some ad) n c] 95)).cell? ⟨(ad.add (k * 9)).block, (ad.add (k * 9)).off + 6, none⟩ = some (Value.int .i64 vvat) ∧ (w.alloc (.cells #[Value.slice (some ad) n c] 95)).cell? ⟨(ad.add (k * 9)).block, (ad.add (k * 9)).off + 7, none⟩ = some (Value.int .i64 vgr) ∧ (w.alloc (.cells #[Value.slice (some ad) n c] 95)).cell? ⟨(ad.add (k * 9)).block, (ad.add (k * 9)).off + 8, none⟩ = some (Value.int .i64 ((j : Int) + 1)) from ⟨cell_alloc e0 _, cell_alloc e1 _, cell_alloc e2 _, cell_alloc e3 _, cell_alloc e4 _, cell_alloc e5 _, cell_alloc e6 _, cell_alloc e7 _, cell_alloc e8 _⟩)
  obtain ⟨u0, u1, u2, u3, u4, u5, u6, u7, u8⟩ := (show ((w.alloc (.cells #[Value.slice (some ad) n c] 95)).alloc (.cells #[Value.int .i64 vnum, Value.string vcu, Value.string vcr, Value.int .i64 vat, Value.slice vA vn vc, Value.int .i64 vnet, Value.int .i64 vvat, Value.int .i64 vgr, Value.int .i64 ((j : Int) + 1)] 100)).cell? (ad.add (j * 9)) = some (Value.int .i64 onum) ∧ ((w.alloc (.cells #[Value.slice (some ad) n c] 95)).alloc (.cells #[Value.int .i64 vnum, Value.string vcu, Value.string vcr, Value.int .i64 vat, Value.slice vA vn vc, Value.int .i64 vnet, Value.int .i64 vvat, Value.int .i64 vgr, Value.int .i64 ((j : Int) + 1)] 100)).cell? ⟨(ad.add (j * 9)).block, (ad.add (j * 9)).off + 1, none⟩ = some (Value.string vcu) ∧ ((w.alloc (.cells #[Value.slice (some ad) n c] 95)).alloc (.cells #[Value.int .i64 vnum, Value.string vcu, Value.string vcr, Value.int .i64 vat, Value.slice vA vn vc, Value.int .i64 vnet, Value.int .i64 vvat, Value.int .i64 vgr, Value.int .i64 ((j : Int) + 1)] 100)).cell? ⟨(ad.add (j * 9)).block, (ad.add (j * 9)).off + 2, none⟩ = some (Value.string vcr) ∧ ((w.alloc (.cells #[Value.slice (some ad) n c] 95)).alloc (.cells #[Value.int .i64 vnum, Value.string vcu, Value.string vcr, Value.int .i64 vat, Value.slice vA vn vc, Value.int .i64 vnet, Value.int .i64 vvat, Value.int .i64 vgr, Value.int .i64 ((j : Int) + 1)] 100)).cell? ⟨(ad.add (j * 9)).block, (ad.add (j * 9)).off + 3, none⟩ = some (Value.int .i64 oat) ∧ ((w.alloc (.cells #[Value.slice (some ad) n c] 95)).alloc (.cells #[Value.int .i64 vnum, Value.string vcu, Value.string vcr, Value.int .i64 vat, Value.slice vA vn vc, Value.int .i64 vnet, Value.int .i64 vvat, Value.int .i64 vgr, Value.int .i64 ((j : Int) + 1)] 100)).cell? ⟨(ad.add (j * 9)).block, (ad.add (j * 9)).off + 4, none⟩ = some (Value.slice oA on oc) ∧ ((w.alloc (.cells #[Value.slice (some ad) n c] 95)).alloc (.cells #[Value.int .i64 vnum, Value.string vcu, Value.string vcr, Value.int .i64 vat, Value.slice vA vn vc, Value.int .i64 vnet, Value.int .i64 vvat, Value.int .i64 vgr, Value.int .i64 ((j : Int) + 1)] 100)).cell? ⟨(ad.add (j * 9)).block, (ad.add (j * 9)).off + 5, none⟩ = some (Value.int .i64 onet) ∧ ((w.alloc (.cells #[Value.slice (some ad) n c] 95)).alloc (.cells #[Value.int .i64 vnum, Value.string vcu, Value.string vcr, Value.int .i64 vat, Value.slice vA vn vc, Value.int .i64 vnet, Value.int .i64 vvat, Value.int .i64 vgr, Value.int .i64 ((j : Int) + 1)] 100)).cell? ⟨(ad.add (j * 9)).block, (ad.add (j * 9)).off + 6, none⟩ = some (Value.int .i64 ovat) ∧ ((w.alloc (.cells #[Value.slice (some ad) n c] 95)).alloc (.cells #[Value.int .i64 vnum, Value.string vcu, Value.string vcr, Value.int .i64 vat, Value.slice vA vn vc, Value.int .i64 vnet, Value.int .i64 vvat, Value.int .i64 vgr, Value.int .i64 ((j : Int) + 1)] 100)).cell? ⟨(ad.add (j * 9)).block, (ad.add (j * 9)).off + 7, none⟩ = some (Value.int .i64 ogr) ∧ ((w.alloc (.cells #[Value.slice (some ad) n c] 95)).alloc (.cells #[Value.int .i64 vnum, Value.string vcu, Value.string vcr, Value.int .i64 vat, Value.slice vA vn vc, Value.int .i64 vnet, Value.int .i64 vvat, Value.int .i64 vgr, Value.int .i64 ((j : Int) + 1)] 100)).cell? ⟨(ad.add (j * 9)).block, (ad.add (j * 9)).off + 8, none⟩ = some (Value.int .i64 0) from ⟨cell_alloc (cell_alloc t0 _) _, cell_alloc (cell_alloc t1 _) _, cell_alloc (cell_alloc t2 _) _, cell_alloc (cell_alloc t3 _) _, cell_alloc (cell_alloc t4 _) _, cell_alloc (cell_alloc t5 _) _, cell_alloc (cell_alloc t6 _) _, cell_alloc (cell_alloc t7 _) _, cell_alloc (cell_alloc t8 _) _⟩)
  have hy := Blk.new (w.alloc (.cells #[Value.slice (some ad) n c] 95)) 100 #[Value.int .i64 vnum, Value.string vcu, Value.string vcr, Value.int .i64 vat, Value.slice vA vn vc, Value.int .i64 vnet, Value.int .i64 vvat, Value.int .i64 vgr, Value.int .i64 ((j : Int) + 1)]
  rw [show (w.alloc (.cells #[Value.slice (some ad) n c] 95)).heap.size = w.heap.size + 1 by simp] at hy
  obtain ⟨m0, m1, m2, m3, m4, m5, m6, m7, m8⟩ := cells9 (((w.alloc (.cells #[Value.slice (some ad) n c] 95)).alloc (.cells #[Value.int .i64 vnum, Value.string vcu, Value.string vcr, Value.int .i64 vat, Value.slice vA vn vc, Value.int .i64 vnet, Value.int .i64 vvat, Value.int .i64 vgr, Value.int .i64 ((j : Int) + 1)] 100))) ((w.heap.size + 1)) (Value.int .i64 vnum) (Value.string vcu) (Value.string vcr) (Value.int .i64 vat) (Value.slice vA vn vc) (Value.int .i64 vnet) (Value.int .i64 vvat) (Value.int .i64 vgr) (Value.int .i64 ((j : Int) + 1)) (hy)
  have hy3 := Lib.hid (hy.alloc (.cells #[Value.int .i64 onum, Value.string vcu, Value.string vcr, Value.int .i64 oat, Value.slice oA on oc, Value.int .i64 onet, Value.int .i64 ovat, Value.int .i64 ogr, Value.int .i64 0] 100))
  have hg0 := Blk.new ((w.alloc (.cells #[Value.slice (some ad) n c] 95)).alloc (.cells #[Value.int .i64 vnum, Value.string vcu, Value.string vcr, Value.int .i64 vat, Value.slice vA vn vc, Value.int .i64 vnet, Value.int .i64 vvat, Value.int .i64 vgr, Value.int .i64 ((j : Int) + 1)] 100)) 100 #[Value.int .i64 onum, Value.string vcu, Value.string vcr, Value.int .i64 oat, Value.slice oA on oc, Value.int .i64 onet, Value.int .i64 ovat, Value.int .i64 ogr, Value.int .i64 0]
  rw [show ((w.alloc (.cells #[Value.slice (some ad) n c] 95)).alloc (.cells #[Value.int .i64 vnum, Value.string vcu, Value.string vcr, Value.int .i64 vat, Value.slice vA vn vc, Value.int .i64 vnet, Value.int .i64 vvat, Value.int .i64 vgr, Value.int .i64 ((j : Int) + 1)] 100)).heap.size = w.heap.size + 1 + 1 by simp] at hg0
  replace hg0 := Lib.hid hg0
  have hvI := Lib.hid (hv.1.more hb4.out)
  have hoI := Lib.hid (hvo.1.more hb4.out)
  clear hy hd hd2 hv hvo e0 e1 e2 e3 e4 e5 e6 e7 e8 t0 t1 t2 t3 t4 t5 t6 t7 t8 hb0 hb1
  go_enter Tryd.func52, Tryd.ntmps52
  go_wp2_with fail
  clear d0 d1 k0 k1 k2 k3 k4 k5 k6 k7 k8 u0 u1 u2 u3 u4 u5 u6 u7 u8 m0 m1 m2 m3 m4 m5 m6 m7 m8
  have hcr : Hid (∀ wz, Below (((w.alloc (.cells #[Value.slice (some ad) n c] 95)).alloc (.cells #[Value.int .i64 vnum, Value.string vcu, Value.string vcr, Value.int .i64 vat, Value.slice vA vn vc, Value.int .i64 vnet, Value.int .i64 vvat, Value.int .i64 vgr, Value.int .i64 ((j : Int) + 1)] 100)).alloc (.cells #[Value.int .i64 onum, Value.string vcu, Value.string vcr, Value.int .i64 oat, Value.slice oA on oc, Value.int .i64 onet, Value.int .i64 ovat, Value.int .i64 ogr, Value.int .i64 0] 100)).heap.size (((w.alloc (.cells #[Value.slice (some ad) n c] 95)).alloc (.cells #[Value.int .i64 vnum, Value.string vcu, Value.string vcr, Value.int .i64 vat, Value.slice vA vn vc, Value.int .i64 vnet, Value.int .i64 vvat, Value.int .i64 vgr, Value.int .i64 ((j : Int) + 1)] 100)).alloc (.cells #[Value.int .i64 onum, Value.string vcu, Value.string vcr, Value.int .i64 oat, Value.slice oA on oc, Value.int .i64 onet, Value.int .i64 ovat, Value.int .i64 ogr, Value.int .i64 0] 100)) wz → Calls Tryd.prog 36 #[.agg #[Value.slice (some ad) n c], .int .i64 ((j : Int) + 1), .int .i64 k] wz fun e w' => e = .returned (.bool false) ∧ Below wz.heap.size wz w') := fun wz hz => hcrd0.out wz (hb4.out.trans (hz.mono hb4.out.size))
  have hng : Hid (∀ wz, Below (((w.alloc (.cells #[Value.slice (some ad) n c] 95)).alloc (.cells #[Value.int .i64 vnum, Value.string vcu, Value.string vcr, Value.int .i64 vat, Value.slice vA vn vc, Value.int .i64 vnet, Value.int .i64 vvat, Value.int .i64 vgr, Value.int .i64 ((j : Int) + 1)] 100)).alloc (.cells #[Value.int .i64 onum, Value.string vcu, Value.string vcr, Value.int .i64 oat, Value.slice oA on oc, Value.int .i64 onet, Value.int .i64 ovat, Value.int .i64 ogr, Value.int .i64 0] 100)).heap.size (((w.alloc (.cells #[Value.slice (some ad) n c] 95)).alloc (.cells #[Value.int .i64 vnum, Value.string vcu, Value.string vcr, Value.int .i64 vat, Value.slice vA vn vc, Value.int .i64 vnet, Value.int .i64 vvat, Value.int .i64 vgr, Value.int .i64 ((j : Int) + 1)] 100)).alloc (.cells #[Value.int .i64 onum, Value.string vcu, Value.string vcr, Value.int .i64 oat, Value.slice oA on oc, Value.int .i64 onet, Value.int .i64 ovat, Value.int .i64 ogr, Value.int .i64 0] 100)) wz → Calls Tryd.prog 37 #[.slice oA on oc] wz fun e w' => (∃ v, e = .returned v ∧ LOwn itC 7 90 w' wz.heap.size v vits) ∧ Below wz.heap.size wz w') := fun wz hz => by
    rw [hits]
    exact negate_any oA on oc oits wz (hoI.out.more hz) (by have := hoI.out.len; have := hvos.2.2; omega) hvos.1
  have heqs : Hid (∀ wz, Below (((w.alloc (.cells #[Value.slice (some ad) n c] 95)).alloc (.cells #[Value.int .i64 vnum, Value.string vcu, Value.string vcr, Value.int .i64 vat, Value.slice vA vn vc, Value.int .i64 vnet, Value.int .i64 vvat, Value.int .i64 vgr, Value.int .i64 ((j : Int) + 1)] 100)).alloc (.cells #[Value.int .i64 onum, Value.string vcu, Value.string vcr, Value.int .i64 oat, Value.slice oA on oc, Value.int .i64 onet, Value.int .i64 ovat, Value.int .i64 ogr, Value.int .i64 0] 100)).heap.size (((w.alloc (.cells #[Value.slice (some ad) n c] 95)).alloc (.cells #[Value.int .i64 vnum, Value.string vcu, Value.string vcr, Value.int .i64 vat, Value.slice vA vn vc, Value.int .i64 vnet, Value.int .i64 vvat, Value.int .i64 vgr, Value.int .i64 ((j : Int) + 1)] 100)).alloc (.cells #[Value.int .i64 onum, Value.string vcu, Value.string vcr, Value.int .i64 oat, Value.slice oA on oc, Value.int .i64 onet, Value.int .i64 ovat, Value.int .i64 ogr, Value.int .i64 0] 100)) wz → ∀ A4 n4 c4, ItAt wz A4 n4 vits → Calls Tryd.prog 61 #[.slice vA vn vc, .slice A4 n4 c4] wz fun e w' => e = .returned (.bool true) ∧ Below wz.heap.size wz w') := fun wz hz A4 n4 c4 q4 => by
    have e1 := hvI.out.len
    have e2 := q4.len
    have e3 : n4 = vn := by omega
    rw [e3] at q4 ⊢
    exact equal_any vA A4 vn vc c4 vits wz (hvI.out.more hz) q4 (by have := hvs.2.2; omega)
  have hcd : Hid (∀ wz, Below (((w.alloc (.cells #[Value.slice (some ad) n c] 95)).alloc (.cells #[Value.int .i64 vnum, Value.string vcu, Value.string vcr, Value.int .i64 vat, Value.slice vA vn vc, Value.int .i64 vnet, Value.int .i64 vvat, Value.int .i64 vgr, Value.int .i64 ((j : Int) + 1)] 100)).alloc (.cells #[Value.int .i64 onum, Value.string vcu, Value.string vcr, Value.int .i64 oat, Value.slice oA on oc, Value.int .i64 onet, Value.int .i64 ovat, Value.int .i64 ogr, Value.int .i64 0] 100)).heap.size (((w.alloc (.cells #[Value.slice (some ad) n c] 95)).alloc (.cells #[Value.int .i64 vnum, Value.string vcu, Value.string vcr, Value.int .i64 vat, Value.slice vA vn vc, Value.int .i64 vnet, Value.int .i64 vvat, Value.int .i64 vgr, Value.int .i64 ((j : Int) + 1)] 100)).alloc (.cells #[Value.int .i64 onum, Value.string vcu, Value.string vcr, Value.int .i64 oat, Value.slice oA on oc, Value.int .i64 onet, Value.int .i64 ovat, Value.int .i64 ogr, Value.int .i64 0] 100)) wz → wz.cell? ⟨w.heap.size, 0, none⟩ = some (Value.slice (some ad) n c)) := fun wz hz => by
    have q := hd3.out.below hz hd3.out.lt
    exact q.cell 0
  have hcv : Hid (∀ wz, Below (((w.alloc (.cells #[Value.slice (some ad) n c] 95)).alloc (.cells #[Value.int .i64 vnum, Value.string vcu, Value.string vcr, Value.int .i64 vat, Value.slice vA vn vc, Value.int .i64 vnet, Value.int .i64 vvat, Value.int .i64 vgr, Value.int .i64 ((j : Int) + 1)] 100)).alloc (.cells #[Value.int .i64 onum, Value.string vcu, Value.string vcr, Value.int .i64 oat, Value.slice oA on oc, Value.int .i64 onet, Value.int .i64 ovat, Value.int .i64 ogr, Value.int .i64 0] 100)).heap.size (((w.alloc (.cells #[Value.slice (some ad) n c] 95)).alloc (.cells #[Value.int .i64 vnum, Value.string vcu, Value.string vcr, Value.int .i64 vat, Value.slice vA vn vc, Value.int .i64 vnet, Value.int .i64 vvat, Value.int .i64 vgr, Value.int .i64 ((j : Int) + 1)] 100)).alloc (.cells #[Value.int .i64 onum, Value.string vcu, Value.string vcr, Value.int .i64 oat, Value.slice oA on oc, Value.int .i64 onet, Value.int .i64 ovat, Value.int .i64 ogr, Value.int .i64 0] 100)) wz → wz.cell? ⟨(w.heap.size + 1), 1, none⟩ = some (Value.string vcu) ∧ wz.cell? ⟨(w.heap.size + 1), 2, none⟩ = some (Value.string vcr) ∧ wz.cell? ⟨(w.heap.size + 1), 4, none⟩ = some (Value.slice vA vn vc) ∧ wz.cell? ⟨(w.heap.size + 1), 8, none⟩ = some (Value.int .i64 ((j : Int) + 1))) := fun wz hz => by
    have q := hy3.out.below hz hy3.out.lt
    exact ⟨q.cell 1, q.cell 2, q.cell 4, q.cell 8⟩
  have hco : Hid (∀ wz, Below (((w.alloc (.cells #[Value.slice (some ad) n c] 95)).alloc (.cells #[Value.int .i64 vnum, Value.string vcu, Value.string vcr, Value.int .i64 vat, Value.slice vA vn vc, Value.int .i64 vnet, Value.int .i64 vvat, Value.int .i64 vgr, Value.int .i64 ((j : Int) + 1)] 100)).alloc (.cells #[Value.int .i64 onum, Value.string vcu, Value.string vcr, Value.int .i64 oat, Value.slice oA on oc, Value.int .i64 onet, Value.int .i64 ovat, Value.int .i64 ogr, Value.int .i64 0] 100)).heap.size (((w.alloc (.cells #[Value.slice (some ad) n c] 95)).alloc (.cells #[Value.int .i64 vnum, Value.string vcu, Value.string vcr, Value.int .i64 vat, Value.slice vA vn vc, Value.int .i64 vnet, Value.int .i64 vvat, Value.int .i64 vgr, Value.int .i64 ((j : Int) + 1)] 100)).alloc (.cells #[Value.int .i64 onum, Value.string vcu, Value.string vcr, Value.int .i64 oat, Value.slice oA on oc, Value.int .i64 onet, Value.int .i64 ovat, Value.int .i64 ogr, Value.int .i64 0] 100)) wz → wz.cell? ⟨(w.heap.size + 1 + 1), 1, none⟩ = some (Value.string vcu) ∧ wz.cell? ⟨(w.heap.size + 1 + 1), 2, none⟩ = some (Value.string vcr) ∧ wz.cell? ⟨(w.heap.size + 1 + 1), 4, none⟩ = some (Value.slice oA on oc) ∧ wz.cell? ⟨(w.heap.size + 1 + 1), 8, none⟩ = some (Value.int .i64 0)) := fun wz hz => by
    have q := hg0.out.below hz hg0.out.lt
    exact ⟨q.cell 1, q.cell 2, q.cell 4, q.cell 8⟩
  clear hd3 hy3 hg0 hvI hoI hcrd0 hits hvs hvos hws
  generalize (((w.alloc (.cells #[Value.slice (some ad) n c] 95)).alloc (.cells #[Value.int .i64 vnum, Value.string vcu, Value.string vcr, Value.int .i64 vat, Value.slice vA vn vc, Value.int .i64 vnet, Value.int .i64 vvat, Value.int .i64 vgr, Value.int .i64 ((j : Int) + 1)] 100)).alloc (.cells #[Value.int .i64 onum, Value.string vcu, Value.string vcr, Value.int .i64 oat, Value.slice oA on oc, Value.int .i64 onet, Value.int .i64 ovat, Value.int .i64 ogr, Value.int .i64 0] 100)) = wB at *
  generalize w.heap.size + 1 + 1 = go at *
  generalize w.heap.size + 1 = gv at *
  obtain ⟨gd, hgd⟩ : ∃ gd, gd = w.heap.size := ⟨_, rfl⟩
  rw [← hgd] at hcd ⊢
  replace hgd := Lib.hid hgd
  refine RM.region [] [] (F := F39 gd gv go k n c j vn vc on oc ad vA oA vcu vcr vits) (W := fun wz => Below wB.heap.size wB wz) (R := fun _ => Rb) (S := noS) (G := noG) rfl F39_more (fun _ _ _ _ _ _ _ => trivial) (fun _ _ _ _ _ h => h.elim) (fun _ _ _ _ _ h => h.elim) (by kernel_rfl) (by kernel_rfl) (by kernel_rfl) (by kernel_rfl) (by kernel_rfl) ?_ ?_ ?_ (by kernel_rfl) ?_
  · exact (Below.refl _ _).drew
  · intro t ht
    unfold F39
    split <;> first | trivial | exact rfl | (exact absurd ht (by decide))
  · simp only [List.forall_mem_cons, List.not_mem_nil, false_implies, implies_true, and_true]
    refine ⟨?_, ?_, ?_, ?_, ?_, ?_, ?_, ?_, ?_, ?_, ?_, ?_, ?_, ?_, ?_, ?_, ?_, ?_, ?_, ?_, ?_, ?_, ?_, ?_, ?_, ?_, ?_, ?_, ?_, ?_, ?_, ?_, ?_, ?_⟩
    · intro a w2 hw _ hf K hK
      have f0 := hf 6 rfl
      simp only [F39] at f0
      clear hf
      obtain ⟨o1, o2, o4, o8⟩ := hco.out w2 hw
      go_simp
      exact hK _ _ _ rfl rfl hw (Below.refl _ _) (fun h => absurd h (by decide))
    · intro a w2 hw _ hf K hK
      have f0 := hf 33 rfl
      simp only [F39] at f0
      clear hf
      obtain ⟨o1, o2, o4, o8⟩ := hco.out w2 hw
      go_simp
      exact hK _ _ _ rfl rfl hw (Below.refl _ _) (fun h => absurd h (by decide))
    · intro a w2 hw _ hf K hK
      have f0 := hf 34 rfl
      simp only [F39] at f0
      clear hf
      go_simp
      exact hK _ _ _ rfl rfl hw (Below.refl _ _) (fun h => absurd h (by decide))
    · intro a w2 hw _ hf K hK
      have f0 := hf 35 rfl
      simp only [F39] at f0
      clear hf
      go_simp
      exact hK _ _ _ rfl rfl hw (Below.refl _ _) (fun h => absurd h (by decide))
    · refine ⟨?_, ?_⟩
      · intro a w2 hw hg hf K hK
        have f0 := hf 6 rfl
        simp only [F39] at f0
        clear hf
        obtain ⟨o1, o2, o4, o8⟩ := hco.out w2 hw
        go_simp
        exact hK _ _ _ rfl rfl hw (Below.refl _ _) (fun h => absurd h (by decide))
      · exact fun v w _ hv hne => absurd hv hne
    · refine ⟨?_, ?_⟩
      · intro a w2 hw hg hf K hK
        have f0 := hf 37 rfl
        simp only [F39] at f0
        clear hf
        obtain ⟨o1, o2, o4, o8⟩ := hco.out w2 hw
        go_simp
        exact hK _ _ _ rfl rfl hw (Below.refl _ _) (fun h => absurd h (by decide))
      · exact fun v w _ hv hne => absurd hv hne
    · refine ⟨?_, ?_⟩
      · intro a w2 hw hg hf K hK
        have f0 := hf 5 rfl
        simp only [F39] at f0
        clear hf
        obtain ⟨v1, v2, v4, v8⟩ := hcv.out w2 hw
        go_simp
        exact hK _ _ _ rfl rfl hw (Below.refl _ _) (fun h => absurd h (by decide))
      · exact fun v w _ hv hne => absurd hv hne
    · refine ⟨?_, ?_⟩
      · intro a w2 hw hg hf K hK
        have f0 := hf 39 rfl
        simp only [F39] at f0
        clear hf
        obtain ⟨v1, v2, v4, v8⟩ := hcv.out w2 hw
        go_simp
        exact hK _ _ _ rfl rfl hw (Below.refl _ _) (fun h => absurd h (by decide))
      · exact fun v w _ hv hne => absurd hv hne
    · refine ⟨?_, ?_⟩
      · intro a w2 hw hg hf K hK
        have f0 := hf 38 rfl
        have f1 := hf 40 rfl
        simp only [F39] at f0 f1
        clear hf
        go_simp
        exact hK _ _ _ rfl rfl hw (Below.refl _ _) (fun h => absurd h (by decide))
      · exact fun v w _ hv hne => absurd hv hne
    · intro a w2 hw _ hf K hK
      have f0 := hf 36 rfl
      have f1 := hf 41 rfl
      simp only [F39] at f0 f1
      clear hf
      go_simp
      exact hK _ _ _ rfl rfl hw (Below.refl _ _) (fun h => absurd h (by decide))
    · intro a w2 hw _ hf K hK
      have f0 := hf 42 rfl
      simp only [F39] at f0
      clear hf
      go_simp
      exact hK _ _ _ rfl rfl hw (Below.refl _ _) (fun h => absurd h (by decide))
    · refine ⟨?_, ?_⟩
      · intro a w2 hw hg hf K hK
        have f0 := hf 6 rfl
        simp only [F39] at f0
        clear hf
        obtain ⟨o1, o2, o4, o8⟩ := hco.out w2 hw
        go_simp
        exact hK _ _ _ rfl rfl hw (Below.refl _ _) (fun h => absurd h (by decide))
      · exact fun v w _ hv hne => absurd hv hne
    · refine ⟨?_, ?_⟩
      · intro a w2 hw hg hf K hK
        have f0 := hf 44 rfl
        simp only [F39] at f0
        clear hf
        obtain ⟨o1, o2, o4, o8⟩ := hco.out w2 hw
        go_simp
        exact hK _ _ _ rfl rfl hw (Below.refl _ _) (fun h => absurd h (by decide))
      · exact fun v w _ hv hne => absurd hv hne
    · refine ⟨?_, ?_⟩
      · intro a w2 hw hg hf K hK
        have f0 := hf 5 rfl
        simp only [F39] at f0
        clear hf
        obtain ⟨v1, v2, v4, v8⟩ := hcv.out w2 hw
        go_simp
        exact hK _ _ _ rfl rfl hw (Below.refl _ _) (fun h => absurd h (by decide))
      · exact fun v w _ hv hne => absurd hv hne
    · refine ⟨?_, ?_⟩
      · intro a w2 hw hg hf K hK
        have f0 := hf 46 rfl
        simp only [F39] at f0
        clear hf
        obtain ⟨v1, v2, v4, v8⟩ := hcv.out w2 hw
        go_simp
        exact hK _ _ _ rfl rfl hw (Below.refl _ _) (fun h => absurd h (by decide))
      · exact fun v w _ hv hne => absurd hv hne
    · refine ⟨?_, ?_⟩
      · intro a w2 hw hg hf K hK
        have f0 := hf 45 rfl
        have f1 := hf 47 rfl
        simp only [F39] at f0 f1
        clear hf
        go_simp
        exact hK _ _ _ rfl rfl hw (Below.refl _ _) (fun h => absurd h (by decide))
      · exact fun v w _ hv hne => absurd hv hne
    · intro a w2 hw _ hf K hK
      have f0 := hf 43 rfl
      have f1 := hf 48 rfl
      simp only [F39] at f0 f1
      clear hf
      go_simp
      exact hK _ _ _ rfl rfl hw (Below.refl _ _) (fun h => absurd h (by decide))
    · intro a w2 hw _ hf K hK
      have f0 := hf 49 rfl
      simp only [F39] at f0
      clear hf
      go_simp
      exact hK _ _ _ rfl rfl hw (Below.refl _ _) (fun h => absurd h (by decide))
    · refine ⟨?_, ?_⟩
      · intro a w2 hw hg hf K hK
        have f0 := hf 2 rfl
        simp only [F39] at f0
        clear hf
        have d0 := hcd.out w2 hw
        go_simp
        exact hK _ _ _ rfl rfl hw (Below.refl _ _) (fun h => absurd h (by decide))
      · exact fun v w _ hv hne => absurd hv hne
    · refine ⟨?_, ?_⟩
      · intro a w2 hw hg hf K hK
        have f0 := hf 5 rfl
        simp only [F39] at f0
        clear hf
        obtain ⟨v1, v2, v4, v8⟩ := hcv.out w2 hw
        go_simp
        exact hK _ _ _ rfl rfl hw (Below.refl _ _) (fun h => absurd h (by decide))
      · exact fun v w _ hv hne => absurd hv hne
    · refine ⟨?_, ?_⟩
      · intro a w2 hw hg hf K hK
        have f0 := hf 52 rfl
        simp only [F39] at f0
        clear hf
        obtain ⟨v1, v2, v4, v8⟩ := hcv.out w2 hw
        go_simp
        exact hK _ _ _ rfl rfl hw (Below.refl _ _) (fun h => absurd h (by decide))
      · exact fun v w _ hv hne => absurd hv hne
    · refine ⟨?_, ?_⟩
      · intro a w2 hw hg hf K hK
        have f0 := hf 1 rfl
        simp only [F39] at f0
        clear hf
        go_simp
        exact hK _ _ _ rfl rfl hw (Below.refl _ _) (fun h => absurd h (by decide))
      · exact fun v w _ hv hne => absurd hv hne
    · refine ⟨?_, ?_⟩
      · intro a w2 hw hg hf K hK
        have f0 := hf 51 rfl
        have f1 := hf 53 rfl
        have f2 := hf 54 rfl
        simp only [F39] at f0 f1 f2
        clear hf
        go_simp
        refine (hcr.out w2 hw).mono ?_; rintro e w5 ⟨rfl, hbq⟩
        exact hK _ _ _ rfl rfl (hw.trans (hbq.mono hw.size)) hbq (fun h => absurd h (by decide))
      · exact fun v w _ hv hne => absurd hv hne
    · refine ⟨?_, ?_⟩
      · intro a w2 hw hg hf K hK
        have f0 := hf 55 rfl
        simp only [F39] at f0
        clear hf
        go_simp
        exact hK _ _ _ rfl rfl hw (Below.refl _ _) (fun h => absurd h (by decide))
      · exact fun v w _ hv hne => absurd hv hne
    · intro a w2 hw _ hf K hK
      have f0 := hf 50 rfl
      have f1 := hf 56 rfl
      simp only [F39] at f0 f1
      clear hf
      go_simp
      exact hK _ _ _ rfl rfl hw (Below.refl _ _) (fun h => absurd h (by decide))
    · intro a w2 hw _ hf K hK
      have f0 := hf 57 rfl
      simp only [F39] at f0
      clear hf
      go_simp
      exact hK _ _ _ rfl rfl hw (Below.refl _ _) (fun h => absurd h (by decide))
    · refine ⟨?_, ?_⟩
      · intro a w2 hw hg hf K hK
        have f0 := hf 5 rfl
        simp only [F39] at f0
        clear hf
        obtain ⟨v1, v2, v4, v8⟩ := hcv.out w2 hw
        go_simp
        exact hK _ _ _ rfl rfl hw (Below.refl _ _) (fun h => absurd h (by decide))
      · exact fun v w _ hv hne => absurd hv hne
    · refine ⟨?_, ?_⟩
      · intro a w2 hw hg hf K hK
        have f0 := hf 59 rfl
        simp only [F39] at f0
        clear hf
        obtain ⟨v1, v2, v4, v8⟩ := hcv.out w2 hw
        go_simp
        exact hK _ _ _ rfl rfl hw (Below.refl _ _) (fun h => absurd h (by decide))
      · exact fun v w _ hv hne => absurd hv hne
    · refine ⟨?_, ?_⟩
      · intro a w2 hw hg hf K hK
        have f0 := hf 6 rfl
        simp only [F39] at f0
        clear hf
        obtain ⟨o1, o2, o4, o8⟩ := hco.out w2 hw
        go_simp
        exact hK _ _ _ rfl rfl hw (Below.refl _ _) (fun h => absurd h (by decide))
      · exact fun v w _ hv hne => absurd hv hne
    · refine ⟨?_, ?_⟩
      · intro a w2 hw hg hf K hK
        have f0 := hf 61 rfl
        simp only [F39] at f0
        clear hf
        obtain ⟨o1, o2, o4, o8⟩ := hco.out w2 hw
        go_simp
        exact hK _ _ _ rfl rfl hw (Below.refl _ _) (fun h => absurd h (by decide))
      · exact fun v w _ hv hne => absurd hv hne
    · refine ⟨?_, ?_⟩
      · intro a w2 hw hg hf K hK
        have f0 := hf 62 rfl
        simp only [F39] at f0
        clear hf
        go_simp
        refine (hng.out w2 hw).mono ?_; rintro e w5 ⟨⟨v9, rfl, hT⟩, hbq⟩
        exact hK _ _ _ rfl (NegT.own hT) (hw.trans (hbq.mono hw.size)) hbq (fun h => absurd h (by decide))
      · exact fun v w _ hv hne => absurd hv hne
    · refine ⟨?_, ?_⟩
      · intro a w2 hw hg hf K hK
        have f0 := hf 60 rfl
        have f1 := hf 63 rfl
        simp only [F39] at f0 f1
        clear hf
        obtain ⟨A4, n4, c4, e4, q4⟩ := f1
        have heq := Lib.hid (heqs.out w2 hw A4 n4 c4 q4)
        clear q4
        go_simp
        refine heq.out.mono ?_; rintro e w5 ⟨rfl, hbq⟩
        exact hK _ _ _ rfl rfl (hw.trans (hbq.mono hw.size)) hbq (fun h => absurd h (by decide))
      · exact fun v w _ hv hne => absurd hv hne
    · intro a w2 hw _ hf K hK
      have f0 := hf 58 rfl
      have f1 := hf 64 rfl
      simp only [F39] at f0 f1
      clear hf
      go_simp
      exact hK _ _ _ rfl rfl hw (Below.refl _ _) (fun h => absurd h (by decide))
    · intro a w2 hw _ hf K hK
      have f0 := hf 65 rfl
      simp only [F39] at f0
      clear hf
      go_simp
      exact hK _ _ _ rfl rfl hw (Below.refl _ _) (fun h => absurd h (by decide))
  · intro a' w9 hd hs hw hout hf _
    have h4 := hf 4 rfl
    simp only [F39] at h4
    have e2 : _ = some (Value.pointer (some ⟨gd, 0, none⟩)) := hout 2 rfl
    have e1 : _ = some (Value.int .i64 (k : Int)) := hout 1 rfl
    have e5 : _ = some (Value.pointer (some ⟨gv, 0, none⟩)) := hout 5 rfl
    have e6 : _ = some (Value.pointer (some ⟨go, 0, none⟩)) := hout 6 rfl
    obtain ⟨tm, df⟩ := a'
    simp only at hd hs h4 e2 e1 e5 e6
    have e := F39_lit tm hs
    simp only [h4, e2, e1, e5, e6, Option.getD_some] at e
    clear hf hout hs
    rw [e, hd]
    clear e hd h4 e2 e1 e5 e6
    generalize tm[0]?.getD undef = u0x, tm[3]?.getD undef = u3x, tm[7]?.getD undef = u7x, tm[8]?.getD undef = u8x, tm[9]?.getD undef = u9x, tm[10]?.getD undef = u10x, tm[11]?.getD undef = u11x, tm[12]?.getD undef = u12x, tm[13]?.getD undef = u13x, tm[14]?.getD undef = u14x, tm[15]?.getD undef = u15x, tm[16]?.getD undef = u16x, tm[17]?.getD undef = u17x, tm[18]?.getD undef = u18x, tm[19]?.getD undef = u19x, tm[20]?.getD undef = u20x, tm[21]?.getD undef = u21x, tm[22]?.getD undef = u22x, tm[23]?.getD undef = u23x, tm[24]?.getD undef = u24x, tm[25]?.getD undef = u25x, tm[26]?.getD undef = u26x, tm[27]?.getD undef = u27x, tm[28]?.getD undef = u28x, tm[29]?.getD undef = u29x, tm[30]?.getD undef = u30x, tm[31]?.getD undef = u31x, tm[32]?.getD undef = u32x, tm[33]?.getD undef = u33x, tm[34]?.getD undef = u34x, tm[35]?.getD undef = u35x, tm[36]?.getD undef = u36x, tm[37]?.getD undef = u37x, tm[38]?.getD undef = u38x, tm[39]?.getD undef = u39x, tm[40]?.getD undef = u40x, tm[41]?.getD undef = u41x, tm[42]?.getD undef = u42x, tm[43]?.getD undef = u43x, tm[44]?.getD undef = u44x, tm[45]?.getD undef = u45x, tm[46]?.getD undef = u46x, tm[47]?.getD undef = u47x, tm[48]?.getD undef = u48x, tm[49]?.getD undef = u49x, tm[50]?.getD undef = u50x, tm[51]?.getD undef = u51x, tm[52]?.getD undef = u52x, tm[53]?.getD undef = u53x, tm[54]?.getD undef = u54x, tm[55]?.getD undef = u55x, tm[56]?.getD undef = u56x, tm[57]?.getD undef = u57x, tm[58]?.getD undef = u58x, tm[59]?.getD undef = u59x, tm[60]?.getD undef = u60x, tm[61]?.getD undef = u61x, tm[62]?.getD undef = u62x, tm[63]?.getD undef = u63x, tm[64]?.getD undef = u64x, tm[65]?.getD undef = u65x
    have hb := Lib.hid (hb4.out.trans (hw.mono hb4.out.size))
    clear hw hcv hco hcd hcr hng heqs
    go_wp2_with fail
    go_ret
    exact ⟨rfl, hb.out⟩
set_option maxRecDepth 100000 in
set_option maxHeartbeats 8000000 in
theorem check_any (A : Option Addr) (n c : Nat) (L : List Im) (k : Nat) (w : World) (h : GoodM w A n c L) (hk : k < n) : Calls Tryd.prog 45 #[.agg #[Value.slice A n c], .int .i64 k] w fun e w' => e = .returned (.int .i64 0) ∧ Below w.heap.size w w' := by
  have hl := h.at_.len
  have hkl : k < L.length := by omega
  have hn := h.n256
  obtain ⟨p1, p2, p3, p4, p5, p6, p7, p8, p9, -⟩ := check_parts (h.parts hkl)
  obtain ⟨l1, l2, l3⟩ := late_parts (by rw [List.length_map]; omega) p2
  obtain ⟨ad, hA, -, e0, e1, e2, e3, e4, e5, e6, e7, e8⟩ := iv_cells h.at_.row hk
  subst hA
  have hv := Lib.hid (h.at_.at_ hk)
  have hvs := h.small hkl
  have hk0 : (0 : Int) ≤ k := by omega
  have hk1 : (k : Int) < n := by omega
  have hpre : ∀ m, k = m + 1 → ∃ y : Int, w.cell? ⟨(ad.add (m * 9)).block, (ad.add (m * 9)).off + 3, none⟩ = some (Value.int .i64 y) ∧ y ≤ L[k].val.at_ := fun m hm => by
    have hml : m < L.length := by omega
    obtain ⟨ad', hA', -, -, -, -, t3, -⟩ := iv_cells h.at_.row (show m < n by omega)
    injection hA' with hA'
    subst hA'
    exact ⟨L[m].at_, t3, l3 L[m].val (by omega) (by rw [show k - 1 = m by omega]; exact map_at hml)⟩
  clear p2 l3
  generalize L[k] = x at *
  obtain ⟨vnum, vcu, vcr, vat, vA, vn, vc, vits, vnet, vvat, vgr, vcd⟩ := x
  simp only [Im.val] at e0 e1 e2 e3 e4 e5 e6 e7 e8 p1 p3 p4 p5 p6 p7 p8 p9 l1 l2 hpre hvs hv
  have hvn : vits.length = vn := hv.out.1.len
  obtain ⟨S1, hS1⟩ : ∃ S, S = netS vits := ⟨_, rfl⟩
  obtain ⟨S2, hS2⟩ : ∃ S, S = vatS vits := ⟨_, rfl⟩
  obtain ⟨S3, hS3⟩ : ∃ S, S = grossS vits := ⟨_, rfl⟩
  rw [← hS1] at p7
  rw [← hS2] at p8
  rw [← hS3] at p9
  have hvn1 : 1 ≤ vn := by omega
  have hvn2 : vn ≤ 64 := by omega
  have hc1 : Hid (∀ wz, Calls Tryd.prog 16 #[.string vcu] wz fun e w' => e = .returned (.bool true) ∧ Below wz.heap.size wz w') := fun wz => by rw [← p4]; exact name_any vcu wz
  have hc2 : Hid (∀ wz, Calls Tryd.prog 28 #[.string vcr] wz fun e w' => e = .returned (.bool true) ∧ Below wz.heap.size wz w') := fun wz => by rw [← p5]; exact cur_any vcr wz
  have hc3 : Hid (∀ wz, Below w.heap.size w wz → Calls Tryd.prog 30 #[.slice vA vn vc] wz fun e w' => e = .returned (.bool true) ∧ Below wz.heap.size wz w') := fun wz hz => by rw [← p6]; exact small_any vA vn vc vits wz (hv.out.1.more hz) (by omega)
  have hc4 : Hid (∀ wz, Below w.heap.size w wz → Calls Tryd.prog 13 #[.slice vA vn vc] wz fun e w' => e = .returned (.tuple #[.int .i64 S1, .int .i64 S2, .int .i64 S3, .int .i64 0]) ∧ Below wz.heap.size wz w') := fun wz hz => by rw [hS1, hS2, hS3]; exact totals_any vA vn vc vits wz (hv.out.1.more hz) (by omega) p6
  have hc5 : Hid (∀ wz, Below w.heap.size w wz → Calls Tryd.prog 52 #[.agg #[Value.slice (some ad) n c], .int .i64 k] wz fun e w' => e = .returned (.bool true) ∧ Below wz.heap.size wz w') := fun wz hz => credits_any (some ad) n c L k wz (h.more hz) hk
  replace hS1 := Lib.hid hS1
  replace hS2 := Lib.hid hS2
  replace hS3 := Lib.hid hS3
  subst p1
  have p7 := p7.symm
  have p8 := p8.symm
  have p9 := p9.symm
  subst p7
  subst p8
  subst p9
  have dn1 : decide ((vn : Int) < 1) = false := by apply decide_eq_false; omega
  have dn2 : decide ((64 : Int) < (vn : Int)) = false := by apply decide_eq_false; omega
  have dl1 : decide (vat < 0) = false := by apply decide_eq_false; omega
  have dl2 : decide (268435456 < vat) = false := by apply decide_eq_false; omega
  have dnum : (((k : Int) + 1) != ((k : Int) + 1)) = false := by simp
  have hb0 : Below w.heap.size w (w.alloc (.cells #[Value.slice (some ad) n c] 95)) := a1 w _
  have hb : Hid (Below w.heap.size w ((w.alloc (.cells #[Value.slice (some ad) n c] 95)).alloc (.cells #[Value.int .i64 ((k : Int) + 1), Value.string vcu, Value.string vcr, Value.int .i64 vat, Value.slice vA vn vc, Value.int .i64 S1, Value.int .i64 S2, Value.int .i64 S3, Value.int .i64 vcd] 100))) := hb0.alloc hb0.size _
  have hd := Blk.new w 95 #[Value.slice (some ad) n c]
  have d0 : ((w.alloc (.cells #[Value.slice (some ad) n c] 95))).cell? ⟨w.heap.size, 0, none⟩ = some (Value.slice (some ad) n c) := (hd).cell 0
  replace hd := Lib.hid (hd.alloc (.cells #[Value.int .i64 ((k : Int) + 1), Value.string vcu, Value.string vcr, Value.int .i64 vat, Value.slice vA vn vc, Value.int .i64 S1, Value.int .i64 S2, Value.int .i64 S3, Value.int .i64 vcd] 100))
  obtain ⟨k0, k1, k2, k3, k4, k5, k6, k7, k8⟩ := (show (w.alloc (.cells #[Value.slice (some ad) n c] 95)).cell? (ad.add (k * 9)) = some (Value.int .i64 ((k : Int) + 1)) ∧ (w.alloc (.cells #[Value.slice (some ad) n c] 95)).cell? ⟨(ad.add (k * 9)).block, (ad.add (k * 9)).off + 1, none⟩ = some (Value.string vcu) ∧ (w.alloc (.cells #[Value.slice (some ad) n c] 95)).cell? ⟨(ad.add (k * 9)).block, (ad.add (k * 9)).off + 2, none⟩ = some (Value.string vcr) ∧ (w.alloc (.cells #[Value.slice (some ad) n c] 95)).cell? ⟨(ad.add (k * 9)).block, (ad.add (k * 9)).off + 3, none⟩ = some (Value.int .i64 vat) ∧ (w.alloc (.cells #[Value.slice (some ad) n c] 95)).cell? ⟨(ad.add (k * 9)).block, (ad.add (k * 9)).off + 4, none⟩ = some (Value.slice vA vn vc) ∧ (w.alloc (.cells #[Value.slice (some ad) n c] 95)).cell? ⟨(ad.add (k * 9)).block, (ad.add (k * 9)).off + 5, none⟩ = some (Value.int .i64 S1) ∧ (w.alloc (.cells #[Value.slice (some ad) n c] 95)).cell? ⟨(ad.add (k * 9)).block, (ad.add (k * 9)).off + 6, none⟩ = some (Value.int .i64 S2) ∧ (w.alloc (.cells #[Value.slice (some ad) n c] 95)).cell? ⟨(ad.add (k * 9)).block, (ad.add (k * 9)).off + 7, none⟩ = some (Value.int .i64 S3) ∧ (w.alloc (.cells #[Value.slice (some ad) n c] 95)).cell? ⟨(ad.add (k * 9)).block, (ad.add (k * 9)).off + 8, none⟩ = some (Value.int .i64 vcd) from ⟨cell_alloc e0 _, cell_alloc e1 _, cell_alloc e2 _, cell_alloc e3 _, cell_alloc e4 _, cell_alloc e5 _, cell_alloc e6 _, cell_alloc e7 _, cell_alloc e8 _⟩)
  have hy := Blk.new (w.alloc (.cells #[Value.slice (some ad) n c] 95)) 100 #[Value.int .i64 ((k : Int) + 1), Value.string vcu, Value.string vcr, Value.int .i64 vat, Value.slice vA vn vc, Value.int .i64 S1, Value.int .i64 S2, Value.int .i64 S3, Value.int .i64 vcd]
  rw [show (w.alloc (.cells #[Value.slice (some ad) n c] 95)).heap.size = w.heap.size + 1 by simp] at hy
  replace hy := Lib.hid hy
  clear e0 e1 e2 e3 e4 e5 e6 e7 e8 hb0 p3 p4 p5 p6 hvs hS1 hS2 hS3 hl
  go_enter Tryd.func45, Tryd.ntmps45
  go_wp2_with fail
  clear d0 k0 k1 k2 k3 k4 k5 k6 k7 k8
  have hpre2 : Hid (∀ m, k = m + 1 → ∃ y : Int, ((w.alloc (.cells #[Value.slice (some ad) n c] 95)).alloc (.cells #[Value.int .i64 ((k : Int) + 1), Value.string vcu, Value.string vcr, Value.int .i64 vat, Value.slice vA vn vc, Value.int .i64 S1, Value.int .i64 S2, Value.int .i64 S3, Value.int .i64 vcd] 100)).cell? ⟨(ad.add (m * 9)).block, (ad.add (m * 9)).off + 3, none⟩ = some (Value.int .i64 y) ∧ y ≤ vat) := fun m hm => by
    obtain ⟨y, h1, h2⟩ := hpre m hm
    exact ⟨y, cell_alloc (cell_alloc h1 _) _, h2⟩
  clear hpre
  generalize ((w.alloc (.cells #[Value.slice (some ad) n c] 95)).alloc (.cells #[Value.int .i64 ((k : Int) + 1), Value.string vcu, Value.string vcr, Value.int .i64 vat, Value.slice vA vn vc, Value.int .i64 S1, Value.int .i64 S2, Value.int .i64 S3, Value.int .i64 vcd] 100)) = w1 at *
  generalize w.heap.size + 1 = gv at *
  obtain ⟨gd, hgd⟩ : ∃ gd, gd = w.heap.size := ⟨_, rfl⟩
  rw [← hgd] at hd ⊢
  replace hgd := Lib.hid hgd
  obtain ⟨m0, m1, m2, m3, m4, m5, m6, m7, m8⟩ := cells9 (w1) (gv) (Value.int .i64 ((k : Int) + 1)) (Value.string vcu) (Value.string vcr) (Value.int .i64 vat) (Value.slice vA vn vc) (Value.int .i64 S1) (Value.int .i64 S2) (Value.int .i64 S3) (Value.int .i64 vcd) (hy.out)
  have d0 : w1.cell? ⟨gd, 0, none⟩ = some (Value.slice (some ad) n c) := hd.out.cell 0
  by_cases q : k = 0
  · subst q
    clear hpre2
    go_quiet (fail)
    clear d0 m0 m1 m2 m3 m4 m5 m6 m7 m8
    have hb := Lib.hid (below_drewN hb.out nq)
    have hd := Lib.hid (hd.out.drewN nq)
    have hy := Lib.hid (hy.out.drewN nq)
    generalize w1.drewN nq = w1 at hb hd hy ⊢
    obtain ⟨m0, m1, m2, m3, m4, m5, m6, m7, m8⟩ := cells9 (w1) (gv) (Value.int .i64 (((0 : Nat) : Int) + 1)) (Value.string vcu) (Value.string vcr) (Value.int .i64 vat) (Value.slice vA vn vc) (Value.int .i64 S1) (Value.int .i64 S2) (Value.int .i64 S3) (Value.int .i64 vcd) (hy.out)
    have d0 : w1.cell? ⟨gd, 0, none⟩ = some (Value.slice (some ad) n c) := hd.out.cell 0
    go_wp2_with fail
    refine (hc1.out _).mono ?_; rintro e w2 ⟨rfl, hq⟩
    clear d0 m0 m1 m2 m3 m4 m5 m6 m7 m8
    have hb := Lib.hid (hb.out.trans (hq.mono hb.out.size))
    have hd := Lib.hid (hd.out.below hq hd.out.lt)
    have hy := Lib.hid (hy.out.below hq hy.out.lt)
    clear hq
    obtain ⟨m0, m1, m2, m3, m4, m5, m6, m7, m8⟩ := cells9 (w2) (gv) (Value.int .i64 (((0 : Nat) : Int) + 1)) (Value.string vcu) (Value.string vcr) (Value.int .i64 vat) (Value.slice vA vn vc) (Value.int .i64 S1) (Value.int .i64 S2) (Value.int .i64 S3) (Value.int .i64 vcd) (hy.out)
    have d0 : w2.cell? ⟨gd, 0, none⟩ = some (Value.slice (some ad) n c) := hd.out.cell 0
    go_wp2_with fail
    refine (hc2.out _).mono ?_; rintro e w3 ⟨rfl, hq⟩
    clear d0 m0 m1 m2 m3 m4 m5 m6 m7 m8
    have hb := Lib.hid (hb.out.trans (hq.mono hb.out.size))
    have hd := Lib.hid (hd.out.below hq hd.out.lt)
    have hy := Lib.hid (hy.out.below hq hy.out.lt)
    clear hq
    obtain ⟨m0, m1, m2, m3, m4, m5, m6, m7, m8⟩ := cells9 (w3) (gv) (Value.int .i64 (((0 : Nat) : Int) + 1)) (Value.string vcu) (Value.string vcr) (Value.int .i64 vat) (Value.slice vA vn vc) (Value.int .i64 S1) (Value.int .i64 S2) (Value.int .i64 S3) (Value.int .i64 vcd) (hy.out)
    have d0 : w3.cell? ⟨gd, 0, none⟩ = some (Value.slice (some ad) n c) := hd.out.cell 0
    go_wp2_with fail
    refine (hc3.out _ hb.out).mono ?_; rintro e w4 ⟨rfl, hq⟩
    clear d0 m0 m1 m2 m3 m4 m5 m6 m7 m8
    have hb := Lib.hid (hb.out.trans (hq.mono hb.out.size))
    have hd := Lib.hid (hd.out.below hq hd.out.lt)
    have hy := Lib.hid (hy.out.below hq hy.out.lt)
    clear hq
    obtain ⟨m0, m1, m2, m3, m4, m5, m6, m7, m8⟩ := cells9 (w4) (gv) (Value.int .i64 (((0 : Nat) : Int) + 1)) (Value.string vcu) (Value.string vcr) (Value.int .i64 vat) (Value.slice vA vn vc) (Value.int .i64 S1) (Value.int .i64 S2) (Value.int .i64 S3) (Value.int .i64 vcd) (hy.out)
    have d0 : w4.cell? ⟨gd, 0, none⟩ = some (Value.slice (some ad) n c) := hd.out.cell 0
    go_wp2_with fail
    refine (hc4.out _ hb.out).mono ?_; rintro e w5 ⟨rfl, hq⟩
    clear d0 m0 m1 m2 m3 m4 m5 m6 m7 m8
    have hb := Lib.hid (hb.out.trans (hq.mono hb.out.size))
    have hd := Lib.hid (hd.out.below hq hd.out.lt)
    have hy := Lib.hid (hy.out.below hq hy.out.lt)
    clear hq
    obtain ⟨m0, m1, m2, m3, m4, m5, m6, m7, m8⟩ := cells9 (w5) (gv) (Value.int .i64 (((0 : Nat) : Int) + 1)) (Value.string vcu) (Value.string vcr) (Value.int .i64 vat) (Value.slice vA vn vc) (Value.int .i64 S1) (Value.int .i64 S2) (Value.int .i64 S3) (Value.int .i64 vcd) (hy.out)
    have d0 : w5.cell? ⟨gd, 0, none⟩ = some (Value.slice (some ad) n c) := hd.out.cell 0
    go_wp2_with fail
    refine (hc5.out _ hb.out).mono ?_; rintro e w6 ⟨rfl, hq⟩
    clear d0 m0 m1 m2 m3 m4 m5 m6 m7 m8
    have hb := Lib.hid (hb.out.trans (hq.mono hb.out.size))
    have hd := Lib.hid (hd.out.below hq hd.out.lt)
    have hy := Lib.hid (hy.out.below hq hy.out.lt)
    clear hq
    go_wp2_with fail
    go_ret
    exact ⟨rfl, hb.out⟩
  obtain ⟨m, rfl⟩ : ∃ m, k = m + 1 := ⟨k - 1, by omega⟩
  obtain ⟨y, hyc, hyl⟩ := hpre2.out m rfl
  have dy : decide (vat < y) = false := by apply decide_eq_false; omega
  have dk : decide ((0 : Int) < (m : Int) + 1) = true := by apply decide_eq_true; omega
  have hm0 : (0 : Int) ≤ m := by omega
  have hm1 : (m : Int) < n := by omega
  go_quiet (fail)
  clear d0 m0 m1 m2 m3 m4 m5 m6 m7 m8
  have hb := Lib.hid (below_drewN hb.out nq)
  have hd := Lib.hid (hd.out.drewN nq)
  have hy := Lib.hid (hy.out.drewN nq)
  generalize w1.drewN nq = w1 at hb hd hy ⊢
  obtain ⟨m0, m1, m2, m3, m4, m5, m6, m7, m8⟩ := cells9 (w1) (gv) (Value.int .i64 (((m + 1 : Nat) : Int) + 1)) (Value.string vcu) (Value.string vcr) (Value.int .i64 vat) (Value.slice vA vn vc) (Value.int .i64 S1) (Value.int .i64 S2) (Value.int .i64 S3) (Value.int .i64 vcd) (hy.out)
  have d0 : w1.cell? ⟨gd, 0, none⟩ = some (Value.slice (some ad) n c) := hd.out.cell 0
  go_wp2_with fail
  refine (hc1.out _).mono ?_; rintro e w2 ⟨rfl, hq⟩
  clear d0 m0 m1 m2 m3 m4 m5 m6 m7 m8
  have hb := Lib.hid (hb.out.trans (hq.mono hb.out.size))
  have hd := Lib.hid (hd.out.below hq hd.out.lt)
  have hy := Lib.hid (hy.out.below hq hy.out.lt)
  clear hq
  obtain ⟨m0, m1, m2, m3, m4, m5, m6, m7, m8⟩ := cells9 (w2) (gv) (Value.int .i64 (((m + 1 : Nat) : Int) + 1)) (Value.string vcu) (Value.string vcr) (Value.int .i64 vat) (Value.slice vA vn vc) (Value.int .i64 S1) (Value.int .i64 S2) (Value.int .i64 S3) (Value.int .i64 vcd) (hy.out)
  have d0 : w2.cell? ⟨gd, 0, none⟩ = some (Value.slice (some ad) n c) := hd.out.cell 0
  go_wp2_with fail
  refine (hc2.out _).mono ?_; rintro e w3 ⟨rfl, hq⟩
  clear d0 m0 m1 m2 m3 m4 m5 m6 m7 m8
  have hb := Lib.hid (hb.out.trans (hq.mono hb.out.size))
  have hd := Lib.hid (hd.out.below hq hd.out.lt)
  have hy := Lib.hid (hy.out.below hq hy.out.lt)
  clear hq
  obtain ⟨m0, m1, m2, m3, m4, m5, m6, m7, m8⟩ := cells9 (w3) (gv) (Value.int .i64 (((m + 1 : Nat) : Int) + 1)) (Value.string vcu) (Value.string vcr) (Value.int .i64 vat) (Value.slice vA vn vc) (Value.int .i64 S1) (Value.int .i64 S2) (Value.int .i64 S3) (Value.int .i64 vcd) (hy.out)
  have d0 : w3.cell? ⟨gd, 0, none⟩ = some (Value.slice (some ad) n c) := hd.out.cell 0
  go_wp2_with fail
  refine (hc3.out _ hb.out).mono ?_; rintro e w4 ⟨rfl, hq⟩
  clear d0 m0 m1 m2 m3 m4 m5 m6 m7 m8
  have hb := Lib.hid (hb.out.trans (hq.mono hb.out.size))
  have hd := Lib.hid (hd.out.below hq hd.out.lt)
  have hy := Lib.hid (hy.out.below hq hy.out.lt)
  clear hq
  obtain ⟨m0, m1, m2, m3, m4, m5, m6, m7, m8⟩ := cells9 (w4) (gv) (Value.int .i64 (((m + 1 : Nat) : Int) + 1)) (Value.string vcu) (Value.string vcr) (Value.int .i64 vat) (Value.slice vA vn vc) (Value.int .i64 S1) (Value.int .i64 S2) (Value.int .i64 S3) (Value.int .i64 vcd) (hy.out)
  have d0 : w4.cell? ⟨gd, 0, none⟩ = some (Value.slice (some ad) n c) := hd.out.cell 0
  go_wp2_with fail
  refine (hc4.out _ hb.out).mono ?_; rintro e w5 ⟨rfl, hq⟩
  clear d0 m0 m1 m2 m3 m4 m5 m6 m7 m8
  have hb := Lib.hid (hb.out.trans (hq.mono hb.out.size))
  have hd := Lib.hid (hd.out.below hq hd.out.lt)
  have hy := Lib.hid (hy.out.below hq hy.out.lt)
  clear hq
  obtain ⟨m0, m1, m2, m3, m4, m5, m6, m7, m8⟩ := cells9 (w5) (gv) (Value.int .i64 (((m + 1 : Nat) : Int) + 1)) (Value.string vcu) (Value.string vcr) (Value.int .i64 vat) (Value.slice vA vn vc) (Value.int .i64 S1) (Value.int .i64 S2) (Value.int .i64 S3) (Value.int .i64 vcd) (hy.out)
  have d0 : w5.cell? ⟨gd, 0, none⟩ = some (Value.slice (some ad) n c) := hd.out.cell 0
  go_wp2_with fail
  refine (hc5.out _ hb.out).mono ?_; rintro e w6 ⟨rfl, hq⟩
  clear d0 m0 m1 m2 m3 m4 m5 m6 m7 m8
  have hb := Lib.hid (hb.out.trans (hq.mono hb.out.size))
  have hd := Lib.hid (hd.out.below hq hd.out.lt)
  have hy := Lib.hid (hy.out.below hq hy.out.lt)
  clear hq
  go_wp2_with fail
  go_ret
  exact ⟨rfl, hb.out⟩
set_option maxRecDepth 100000 in
set_option maxHeartbeats 8000000 in
theorem valid_any (A : Option Addr) (n c : Nat) (L : List Im) (w : World) (h : GoodM w A n c L) : Calls Tryd.prog 27 #[.agg #[Value.slice A n c]] w fun e w' => e = .returned (.int .i64 0) ∧ Below w.heap.size w w' := by
  have hn := h.n256
  have hc := Lib.hid (fun (k : Nat) (hk : k < n) wz (hz : Below w.heap.size w wz) => check_any A n c L k wz (h.more hz) hk)
  have dn : decide ((256 : Int) < (n : Int)) = false := by apply decide_eq_false; omega
  have hx0 := Blk.new w 57 #[Value.slice A n c]
  have a0 : ((w.alloc (.cells #[Value.slice A n c] 57))).cell? ⟨w.heap.size, 0, none⟩ = some (Value.slice A n c) := (hx0).cell 0
  have hx1 := Blk.new (w.alloc (.cells #[Value.slice A n c] 57)) 95 #[Value.slice A n c]
  rw [show (w.alloc (.cells #[Value.slice A n c] 57)).heap.size = w.heap.size + 1 by simp] at hx1
  have b0 : (((w.alloc (.cells #[Value.slice A n c] 57)).alloc (.cells #[Value.slice A n c] 95))).cell? ⟨(w.heap.size + 1), 0, none⟩ = some (Value.slice A n c) := (hx1).cell 0
  have hb0 : Hid (Below w.heap.size w ((w.alloc (.cells #[Value.slice A n c] 57)).alloc (.cells #[Value.slice A n c] 95))) := (a1 w _).alloc (by simp) _
  replace hx1 := Lib.hid hx1
  clear hx0
  go_enter Tryd.func27, Tryd.ntmps27
  go_wp2_with fail
  clear a0 b0
  generalize ((w.alloc (.cells #[Value.slice A n c] 57)).alloc (.cells #[Value.slice A n c] 95)) = w0 at *
  go_loopw [17] (fun i wr => ∃ k : Nat, k ≤ n ∧ i = .int .i64 k ∧ Hid (Blk wr (w.heap.size + 1) 95 #[Value.slice A n c]) ∧ Hid (Below w.heap.size w wr)) (fun i _ => n - (intOf i).toNat)
  case atStart => exact ⟨0, Nat.zero_le _, rfl, hx1.out, hb0.out⟩
  case round =>
    clear hx1 hb0
    obtain ⟨k, hkn, rfl, hx, hb⟩ := hrel
    by_cases hlt : k < n
    · have hk1 : (k : Int) < n := by omega
      have hk0 : (0 : Int) ≤ k := by omega
      have b0 : (wr).cell? ⟨(w.heap.size + 1), 0, none⟩ = some (Value.slice A n c) := (hx.out).cell 0
      go_wp2_with fail
      refine (hc.out k hlt _ hb.out).mono ?_; rintro e w2 ⟨rfl, hq⟩
      have hx := Lib.hid (hx.out.below hq hx.out.lt)
      have hb := Lib.hid (hb.out.trans (hq.mono hb.out.size))
      clear b0 hq
      go_wp2_with fail
      go_roundw
      case rel => exact ⟨k + 1, by omega, by go_num, hx.out, hb.out⟩
      case measure => simp [intOf]; omega
    · go_wp2_with fail
      go_ret
      exact ⟨rfl, hb.out⟩
end Go.Proofs.YtbngclibfnnejaaDoor
