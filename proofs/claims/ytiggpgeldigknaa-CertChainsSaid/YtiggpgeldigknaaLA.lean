/- Ledger: hash of both. -/
import Derived.Test.YtiggpgeldigknaaFB
import Derived.Test.YtiggpgeldigknaaRI
import Derived.Test.YtiggpgeldigknaaSipF
set_option linter.unusedVariables false
set_option linter.unusedSimpArgs false
namespace Go.Proofs.Ytiggpgeldigknaa
open Go.RowKit
structure Ln where
  seq : Int
  at_ : Int
  who : ByteArray
  what : ByteArray
  on : ByteArray
  sum : Int
def lnC (l : Ln) : List Value := [.int .i64 l.seq, .int .i64 l.at_, .string l.who, .string l.what, .string l.on, .int .u64 l.sum]
theorem lnC_len (l : Ln) : (lnC l).length = 6 := rfl
def fdB (tag : Int) (d : List UInt8) : List UInt8 := enc (zig tag) ++ (enc (zig d.length) ++ d)
def lnB (l : Ln) : List UInt8 := fdB 1 (enc (zig l.seq)) ++ (fdB 2 (enc (zig l.at_)) ++ (fdB 3 l.who.data.toList ++ (fdB 4 l.what.data.toList ++ fdB 5 l.on.data.toList)))
structure LnOk (l : Ln) : Prop where
  s : -9223372036854775808 ≤ l.seq ∧ l.seq ≤ 9223372036854775807
  a : -9223372036854775808 ≤ l.at_ ∧ l.at_ ≤ 9223372036854775807
  len : l.who.size + (l.what.size + l.on.size) ≤ 4000
theorem enc_le (u : Nat) : (enc u).length ≤ 10 := encF_len 10 u
theorem fdB_le (t : Int) (d : List UInt8) : (fdB t d).length ≤ 20 + d.length := by
  unfold fdB
  have h1 := enc_le (zig t)
  have h2 := enc_le (zig d.length)
  simp only [List.length_append]
  omega
theorem lnB_le {l : Ln} (h : LnOk l) : (lnB l).length ≤ 5000 := by
  have h1 := fdB_le 1 (enc (zig l.seq))
  have h2 := fdB_le 2 (enc (zig l.at_))
  have h3 := fdB_le 3 l.who.data.toList
  have h4 := fdB_le 4 l.what.data.toList
  have h5 := fdB_le 5 l.on.data.toList
  have h6 := enc_le (zig l.seq)
  have h7 := enc_le (zig l.at_)
  have e1 : l.who.data.toList.length = l.who.size := by simp
  have e2 : l.what.data.toList.length = l.what.size := by simp
  have e3 : l.on.data.toList.length = l.on.size := by simp
  have := h.len
  unfold lnB
  simp only [List.length_append]
  omega
/-- a slice of bytes that lies in what there is -/
def Sl (d : List UInt8) (v : Value) (w : World) : Prop := ∃ A n c, v = .slice A n c ∧ BAt w w.heap.size A n d ∧ n ≤ c
def Fs (tag : Int) (d : List UInt8) (v : Value) (w : World) : Prop := ∃ A n c, v = .agg #[.int .i64 tag, .slice A n c] ∧ BAt w w.heap.size A n d
def Fl (bs : List UInt8) (v : Value) (w : World) : Prop := ∃ A l n c, v = .slice A n c ∧ LAt fdC 2 w w.heap.size A n l ∧ (∀ f ∈ l, BAt w w.heap.size f.A f.n f.d) ∧ FdOk l ∧ putB l = bs
def Rs (bs : List UInt8) (v : Value) (w : World) : Prop := ∃ u, v = .tuple #[u, .int .i64 0] ∧ Sl bs u w
theorem Sl.more {d : List UInt8} {v : Value} {w w' : World} (h : Sl d v w) (hb : Below w.heap.size w w') : Sl d v w' := by
  obtain ⟨A, n, c, rfl, h, hc⟩ := h
  exact ⟨A, n, c, rfl, h.more hb, hc⟩
theorem Fs.more {t : Int} {d : List UInt8} {v : Value} {w w' : World} (h : Fs t d v w) (hb : Below w.heap.size w w') : Fs t d v w' := by
  obtain ⟨A, n, c, rfl, h⟩ := h
  exact ⟨A, n, c, rfl, h.more hb⟩
theorem Fl.more {d : List UInt8} {v : Value} {w w' : World} (h : Fl d v w) (hb : Below w.heap.size w w') : Fl d v w' := by
  obtain ⟨A, l, n, c, rfl, h1, h2, h3, h4⟩ := h
  exact ⟨A, l, n, c, rfl, h1.more hb, fun f hf => (h2 f hf).more hb, h3, h4⟩
theorem Rs.more {d : List UInt8} {v : Value} {w w' : World} (h : Rs d v w) (hb : Below w.heap.size w w') : Rs d v w' := by
  obtain ⟨u, rfl, h⟩ := h
  exact ⟨u, rfl, h.more hb⟩
theorem own_sl {w w' : World} {base : Nat} {v : Value} {d : List UInt8} (h : BOwn w base v d) : Sl d v w := by
  obtain ⟨A, c, rfl, hc, -, -, hA⟩ := h.form
  exact ⟨_, _, _, rfl, hA, hc⟩
theorem flat_bC (l : List UInt8) : flat bC l = l.map fun b => Value.int .u8 (b.toNat : Int) := by
  unfold flat bC
  induction l with
  | nil => rfl
  | cons x l ih => simp [ih]
theorem sl_conv (w : World) (s : ByteArray) (cap : Nat) (hc : s.size ≤ cap) (lo hi : Nat) : Sl s.data.toList (.slice (some ⟨w.heap.size, 0, none⟩) s.size cap) (w.alloc (.cells (bytesRow s cap) 5 (lo, hi))).drew := by
  refine ⟨_, _, _, rfl, ⟨⟨by simp, bC_len⟩, by rw [flat_len bC_len]; simp, fun _ => ⟨_, rfl, by simp, fun j u hu => ?_⟩⟩, hc⟩
  rw [flat_bC] at hu
  rw [List.getElem?_map] at hu
  have hj : j < s.data.toList.length := by
    cases hq : s.data.toList[j]? with
    | none => simp [hq] at hu
    | some b => exact (List.getElem?_eq_some_iff.1 hq).1
  have e : (⟨w.heap.size, 0, none⟩ : Addr).add j = ⟨w.heap.size, j, none⟩ := by unfold Addr.add; split <;> simp_all
  show (w.alloc (.cells (bytesRow s cap) 5 (lo, hi))).cell? _ = _
  rw [e, World.cell?_alloc_mark, ← hu]
  have hj2 : j < s.size := by simpa using hj
  have := bytesRow_at s cap j hj2
  rw [List.getElem?_eq_getElem hj]
  simpa using this
theorem below_conv {B : Nat} {a w : World} (h : Below B a w) (hB : B ≤ w.heap.size) (o : Obj) : Below B a (w.alloc o).drew := (h.alloc hB o).drew
def R (a b : World) : Prop := Below a.heap.size a b
def hW (w1 w : World) : Prop := Below w1.heap.size w1 w
theorem fl_five {l : Ln} (hk : LnOk l) (w : World) {A0 A1 A2 A3 A4 : Option Addr} {n0 n1 n2 n3 n4 c0 c1 c2 c3 c4 : Nat}
    (h0 : BAt w w.heap.size A0 n0 (enc (zig l.seq))) (h1 : BAt w w.heap.size A1 n1 (enc (zig l.at_))) (h2 : BAt w w.heap.size A2 n2 l.who.data.toList) (h3 : BAt w w.heap.size A3 n3 l.what.data.toList) (h4 : BAt w w.heap.size A4 n4 l.on.data.toList) :
    Fl (lnB l) (.slice (some ⟨w.heap.size, 0, none⟩) 5 5) (w.alloc (.cells #[.int .i64 1, .slice A0 n0 c0, .int .i64 2, .slice A1 n1 c1, .int .i64 3, .slice A2 n2 c2, .int .i64 4, .slice A3 n3 c3, .int .i64 5, .slice A4 n4 c4] 117)) := by
  have hb := a1 w (.cells #[.int .i64 1, .slice A0 n0 c0, .int .i64 2, .slice A1 n1 c1, .int .i64 3, .slice A2 n2 c2, .int .i64 4, .slice A3 n3 c3, .int .i64 5, .slice A4 n4 c4] 117)
  have hB : putB [⟨1, A0, n0, c0, enc (zig l.seq)⟩, ⟨2, A1, n1, c1, enc (zig l.at_)⟩, ⟨3, A2, n2, c2, l.who.data.toList⟩, ⟨4, A3, n3, c3, l.what.data.toList⟩, ⟨5, A4, n4, c4, l.on.data.toList⟩] = lnB l := by
    simp only [putB, List.flatMap_cons, List.flatMap_nil, put1, lnB, fdB, List.append_nil, List.append_assoc]
  refine ⟨_, [⟨1, A0, n0, c0, enc (zig l.seq)⟩, ⟨2, A1, n1, c1, enc (zig l.at_)⟩, ⟨3, A2, n2, c2, l.who.data.toList⟩, ⟨4, A3, n3, c3, l.what.data.toList⟩, ⟨5, A4, n4, c4, l.on.data.toList⟩], _, _, rfl, ?_, ?_, ?_, hB⟩
  · have := lit_at (e := 117) fdC_len w [⟨1, A0, n0, c0, enc (zig l.seq)⟩, ⟨2, A1, n1, c1, enc (zig l.at_)⟩, ⟨3, A2, n2, c2, l.who.data.toList⟩, ⟨4, A3, n3, c3, l.what.data.toList⟩, ⟨5, A4, n4, c4, l.on.data.toList⟩] #[.int .i64 1, .slice A0 n0 c0, .int .i64 2, .slice A1 n1 c1, .int .i64 3, .slice A2 n2 c2, .int .i64 4, .slice A3 n3 c3, .int .i64 5, .slice A4 n4 c4] rfl
    simpa using this
  · simp only [List.forall_mem_cons, List.not_mem_nil, false_implies, implies_true, and_true]
    exact ⟨h0.more hb, h1.more hb, h2.more hb, h3.more hb, h4.more hb⟩
  · have hl := lnB_le hk
    refine ⟨by simp, ?_, ?_, by rw [hB]; omega⟩
    · intro i h
      match i, h with
      | 0, _ => simp
      | 1, _ => simp
      | 2, _ => simp
      | 3, _ => simp
      | 4, _ => simp
    · intro i h
      match i, h with
      | 0, _ => simp
      | 1, _ => simp
      | 2, _ => simp
      | 3, _ => simp
def hF (g : Nat) (l : Ln) : Tmp → Value → World → Prop
  | 3, v, _ => v = .pointer (some ⟨g, 0, none⟩)
  | 8, v, _ => v = .pointer (some ⟨g, 0, none⟩)
  | 9, v, _ => v = .int .i64 l.seq
  | 10, v, w => Sl (enc (zig l.seq)) v w
  | 11, v, w => Fs 1 (enc (zig l.seq)) v w
  | 12, v, _ => v = .pointer (some ⟨g, 1, none⟩)
  | 13, v, _ => v = .int .i64 l.at_
  | 14, v, w => Sl (enc (zig l.at_)) v w
  | 15, v, w => Fs 2 (enc (zig l.at_)) v w
  | 16, v, _ => v = .pointer (some ⟨g, 2, none⟩)
  | 17, v, _ => v = .string l.who
  | 18, v, w => Sl l.who.data.toList v w
  | 19, v, w => Fs 3 l.who.data.toList v w
  | 20, v, _ => v = .pointer (some ⟨g, 3, none⟩)
  | 21, v, _ => v = .string l.what
  | 22, v, w => Sl l.what.data.toList v w
  | 23, v, w => Fs 4 l.what.data.toList v w
  | 24, v, _ => v = .pointer (some ⟨g, 4, none⟩)
  | 25, v, _ => v = .string l.on
  | 26, v, w => Sl l.on.data.toList v w
  | 27, v, w => Fs 5 l.on.data.toList v w
  | 28, v, w => Fl (lnB l) v w
  | 29, v, w => Rs (lnB l) v w
  | 7, v, w => Rs (lnB l) v w
  | 30, v, w => Sl (lnB l) v w
  | 5, v, w => Sl (lnB l) v w
  | 31, v, _ => v = .int .i64 0
  | 6, v, _ => v = .int .i64 0
  | _, _, _ => True
theorem hF_more {g : Nat} {l : Ln} (t : Tmp) (v : Value) (w w' : World) (hR : R w w') (h : hF g l t v w) : hF g l t v w' := by
  unfold hF at *
  split at h <;> first | exact h | exact Sl.more h hR | exact Fs.more h hR | exact Fl.more h hR | exact Rs.more h hR
theorem lit_arr (tm : Array Value) (n : Nat) (h : tm.size = n) : tm = ((List.range n).map fun i => tm[i]?.getD undef).toArray := by
  subst h
  apply Array.ext'
  apply List.ext_getElem?
  intro i
  simp only [Array.getElem?_toList, List.getElem?_map]
  by_cases hi : i < tm.size
  · rw [List.getElem?_eq_getElem (by simpa using hi)]
    simp [hi]
  · rw [List.getElem?_eq_none (by simpa using hi)]
    simp [hi]
set_option maxRecDepth 100000 in
set_option maxHeartbeats 8000000 in
theorem hash_any (p : Int) (l : Ln) (w : World) (hk : LnOk l) :
    Calls Try.prog 76 #[.int .u64 p, .agg (lnC l).toArray] w fun e w' => e = .returned (.int .u64 (Sip.sum p (lnB l))) ∧ Below w.heap.size w w' := by
  replace hk := Lib.hid hk
  go_enter Try.func76, Try.ntmps76
  unfold lnC
  go_wp2_with fail
  generalize hw1 : w.alloc (Obj.cells #[Value.int IntKind.i64 l.seq, Value.int IntKind.i64 l.at_, Value.string l.who, Value.string l.what, Value.string l.on, Value.int IntKind.u64 l.sum] 67) = w1
  refine RI.region (F := hF w.heap.size l) (W := hW w1) (R := R) rfl hF_more (by kernel_rfl) (by kernel_rfl) (by kernel_rfl) (by kernel_rfl) ?_ ?_ ?_ ?_
  · exact (Below.refl _ _).drew
  · intro t ht
    unfold hF
    split <;> first | trivial | exact rfl | (exact absurd ht (by decide))
  · have hcell : ∀ w2, hW w1 w2 → w2.cell? ⟨w.heap.size, 0, none⟩ = some (.int .i64 l.seq) ∧ w2.cell? ⟨w.heap.size, 1, none⟩ = some (.int .i64 l.at_) ∧ w2.cell? ⟨w.heap.size, 2, none⟩ = some (.string l.who) ∧ w2.cell? ⟨w.heap.size, 3, none⟩ = some (.string l.what) ∧ w2.cell? ⟨w.heap.size, 4, none⟩ = some (.string l.on) := by
      intro w2 hw
      have q := (Blk.new w 67 #[Value.int IntKind.i64 l.seq, Value.int IntKind.i64 l.at_, Value.string l.who, Value.string l.what, Value.string l.on, Value.int IntKind.u64 l.sum])
      rw [hw1] at q
      have q := q.below hw (lt_of_heap q)
      exact ⟨q.cell 0, q.cell 1, q.cell 2, q.cell 3, q.cell 4⟩
    replace hcell := Lib.hid hcell
    replace hw1 := Lib.hid hw1
    simp only [List.forall_mem_cons, List.not_mem_nil, false_implies, implies_true, and_true]
    refine ⟨?_, ?_, ?_, ?_, ?_, ?_, ?_, ?_, ?_, ?_, ?_, ?_, ?_, ?_, ?_, ?_, ?_, ?_, ?_, ?_, ?_, ?_, ?_, ?_, ?_, ?_, ?_⟩
    · intro a w2 hw hf K hK
      have f0 := hf 3 rfl
      simp only [hF] at f0
      clear hf
      go_simp
      exact hK _ _ _ rfl rfl hw (Below.refl _ _)
    · intro a w2 hw hf K hK
      have f0 := hf 8 rfl
      simp only [hF] at f0
      clear hf
      obtain ⟨c0, c1, c2, c3, c4⟩ := hcell.out w2 hw
      go_simp
      exact hK _ _ _ rfl rfl hw (Below.refl _ _)
    · intro a w2 hw hf K hK
      have f0 := hf 9 rfl
      simp only [hF] at f0
      clear hf
      go_simp
      refine (putInt_any l.seq w2 (by have := hk.out.s; have := hk.out.a; omega) (by have := hk.out.s; have := hk.out.a; omega)).mono ?_; rintro e w3 ⟨v, rfl, ho, hb⟩
      exact hK _ _ _ rfl (own_sl (w' := w3) ho) (hw.trans (hb.mono hw.size)) hb
    · intro a w2 hw hf K hK
      have f0 := hf 10 rfl
      simp only [hF] at f0
      clear hf
      obtain ⟨A, n, c, f0, hA, -⟩ := f0
      go_simp
      exact hK _ _ _ rfl ⟨_, _, _, rfl, hA⟩ hw (Below.refl _ _)
    · intro a w2 hw hf K hK
      have f0 := hf 3 rfl
      simp only [hF] at f0
      clear hf
      go_simp
      exact hK _ _ _ rfl rfl hw (Below.refl _ _)
    · intro a w2 hw hf K hK
      have f0 := hf 12 rfl
      simp only [hF] at f0
      clear hf
      obtain ⟨c0, c1, c2, c3, c4⟩ := hcell.out w2 hw
      go_simp
      exact hK _ _ _ rfl rfl hw (Below.refl _ _)
    · intro a w2 hw hf K hK
      have f0 := hf 13 rfl
      simp only [hF] at f0
      clear hf
      go_simp
      refine (putInt_any l.at_ w2 (by have := hk.out.s; have := hk.out.a; omega) (by have := hk.out.s; have := hk.out.a; omega)).mono ?_; rintro e w3 ⟨v, rfl, ho, hb⟩
      exact hK _ _ _ rfl (own_sl (w' := w3) ho) (hw.trans (hb.mono hw.size)) hb
    · intro a w2 hw hf K hK
      have f0 := hf 14 rfl
      simp only [hF] at f0
      clear hf
      obtain ⟨A, n, c, f0, hA, -⟩ := f0
      go_simp
      exact hK _ _ _ rfl ⟨_, _, _, rfl, hA⟩ hw (Below.refl _ _)
    · intro a w2 hw hf K hK
      have f0 := hf 3 rfl
      simp only [hF] at f0
      clear hf
      go_simp
      exact hK _ _ _ rfl rfl hw (Below.refl _ _)
    · intro a w2 hw hf K hK
      have f0 := hf 16 rfl
      simp only [hF] at f0
      clear hf
      obtain ⟨c0, c1, c2, c3, c4⟩ := hcell.out w2 hw
      go_simp
      exact hK _ _ _ rfl rfl hw (Below.refl _ _)
    · intro a w2 hw hf K hK
      have f0 := hf 17 rfl
      simp only [hF] at f0
      clear hf
      have hcv := run_bytes_of_string (P := Try.prog) w2 9 85 5 l.who Try.underlying9 Try.underlying85 Try.underlying5
      have hcap := Lib.hid (grownCap_ge w2 l.who.size 0 5)
      generalize grownCap w2 l.who.size 0 5 = cap at hcv hcap
      go_simp
      exact hK _ _ _ rfl (sl_conv w2 l.who cap (by have := hcap.out; omega) _ _) (below_conv hw hw.size _) (below_conv (Below.refl _ _) (Nat.le_refl _) _)
    · intro a w2 hw hf K hK
      have f0 := hf 18 rfl
      simp only [hF] at f0
      clear hf
      obtain ⟨A, n, c, f0, hA, -⟩ := f0
      go_simp
      exact hK _ _ _ rfl ⟨_, _, _, rfl, hA⟩ hw (Below.refl _ _)
    · intro a w2 hw hf K hK
      have f0 := hf 3 rfl
      simp only [hF] at f0
      clear hf
      go_simp
      exact hK _ _ _ rfl rfl hw (Below.refl _ _)
    · intro a w2 hw hf K hK
      have f0 := hf 20 rfl
      simp only [hF] at f0
      clear hf
      obtain ⟨c0, c1, c2, c3, c4⟩ := hcell.out w2 hw
      go_simp
      exact hK _ _ _ rfl rfl hw (Below.refl _ _)
    · intro a w2 hw hf K hK
      have f0 := hf 21 rfl
      simp only [hF] at f0
      clear hf
      have hcv := run_bytes_of_string (P := Try.prog) w2 9 85 5 l.what Try.underlying9 Try.underlying85 Try.underlying5
      have hcap := Lib.hid (grownCap_ge w2 l.what.size 0 5)
      generalize grownCap w2 l.what.size 0 5 = cap at hcv hcap
      go_simp
      exact hK _ _ _ rfl (sl_conv w2 l.what cap (by have := hcap.out; omega) _ _) (below_conv hw hw.size _) (below_conv (Below.refl _ _) (Nat.le_refl _) _)
    · intro a w2 hw hf K hK
      have f0 := hf 22 rfl
      simp only [hF] at f0
      clear hf
      obtain ⟨A, n, c, f0, hA, -⟩ := f0
      go_simp
      exact hK _ _ _ rfl ⟨_, _, _, rfl, hA⟩ hw (Below.refl _ _)
    · intro a w2 hw hf K hK
      have f0 := hf 3 rfl
      simp only [hF] at f0
      clear hf
      go_simp
      exact hK _ _ _ rfl rfl hw (Below.refl _ _)
    · intro a w2 hw hf K hK
      have f0 := hf 24 rfl
      simp only [hF] at f0
      clear hf
      obtain ⟨c0, c1, c2, c3, c4⟩ := hcell.out w2 hw
      go_simp
      exact hK _ _ _ rfl rfl hw (Below.refl _ _)
    · intro a w2 hw hf K hK
      have f0 := hf 25 rfl
      simp only [hF] at f0
      clear hf
      have hcv := run_bytes_of_string (P := Try.prog) w2 9 85 5 l.on Try.underlying9 Try.underlying85 Try.underlying5
      have hcap := Lib.hid (grownCap_ge w2 l.on.size 0 5)
      generalize grownCap w2 l.on.size 0 5 = cap at hcv hcap
      go_simp
      exact hK _ _ _ rfl (sl_conv w2 l.on cap (by have := hcap.out; omega) _ _) (below_conv hw hw.size _) (below_conv (Below.refl _ _) (Nat.le_refl _) _)
    · intro a w2 hw hf K hK
      have f0 := hf 26 rfl
      simp only [hF] at f0
      clear hf
      obtain ⟨A, n, c, f0, hA, -⟩ := f0
      go_simp
      exact hK _ _ _ rfl ⟨_, _, _, rfl, hA⟩ hw (Below.refl _ _)
    · intro a w2 hw hf K hK
      have f0 := hf 11 rfl
      have f1 := hf 15 rfl
      have f2 := hf 19 rfl
      have f3 := hf 23 rfl
      have f4 := hf 27 rfl
      simp only [hF] at f0 f1 f2 f3 f4
      clear hf
      obtain ⟨A0, n0, c0, f0, h0⟩ := f0
      obtain ⟨A1, n1, c1, f1, h1⟩ := f1
      obtain ⟨A2, n2, c2, f2, h2⟩ := f2
      obtain ⟨A3, n3, c3, f3, h3⟩ := f3
      obtain ⟨A4, n4, c4, f4, h4⟩ := f4
      replace h0 := Lib.hid h0
      replace h1 := Lib.hid h1
      replace h2 := Lib.hid h2
      replace h3 := Lib.hid h3
      replace h4 := Lib.hid h4
      go_simp
      refine hK _ _ _ rfl ?_ (hw.alloc hw.size _) ((Below.refl _ _).alloc (Nat.le_refl _) _)
      exact fl_five hk.out w2 h0.out h1.out h2.out h3.out h4.out
    · intro a w2 hw hf K hK
      have f0 := hf 28 rfl
      simp only [hF] at f0
      clear hf
      obtain ⟨A, q, n, c, f0, h1, h2, h3, h4⟩ := f0
      replace h1 := Lib.hid h1
      replace h2 := Lib.hid h2
      replace h3 := Lib.hid h3
      replace h4 := Lib.hid h4
      go_simp
      refine (put_any A q n c w2 h1.out h2.out h3.out).mono ?_; rintro e w3 ⟨v, rfl, ho, hb⟩
      rw [h4.out] at ho
      exact hK _ _ _ rfl ⟨_, rfl, own_sl (w' := w3) ho⟩ (hw.trans (hb.mono hw.size)) hb
    · intro a w2 hw hf K hK
      have f0 := hf 29 rfl
      simp only [hF] at f0
      clear hf
      obtain ⟨u, f0, h1⟩ := f0
      replace h1 := Lib.hid h1
      go_simp
      exact hK _ _ _ rfl ⟨_, rfl, h1.out⟩ hw (Below.refl _ _)
    · intro a w2 hw hf K hK
      have f0 := hf 7 rfl
      simp only [hF] at f0
      clear hf
      obtain ⟨u, f0, h1⟩ := f0
      replace h1 := Lib.hid h1
      go_simp
      exact hK _ _ _ rfl h1.out hw (Below.refl _ _)
    · intro a w2 hw hf K hK
      have f0 := hf 7 rfl
      simp only [hF] at f0
      clear hf
      obtain ⟨u, f0, h1⟩ := f0
      replace h1 := Lib.hid h1
      go_simp
      exact hK _ _ _ rfl rfl hw (Below.refl _ _)
    · intro a w2 hw hf K hK
      have f0 := hf 30 rfl
      simp only [hF] at f0
      clear hf
      replace f0 := Lib.hid f0
      go_simp
      exact hK _ _ _ rfl f0.out hw (Below.refl _ _)
    · intro a w2 hw hf K hK
      have f0 := hf 31 rfl
      simp only [hF] at f0
      clear hf
      go_simp
      exact hK _ _ _ rfl rfl hw (Below.refl _ _)
  · intro a' w' hd hs hw hout hf
    have f0 := hf 5
    have f1 := hf 6
    simp only [hF] at f0 f1
    have g0 : _ = some (Value.int .u64 p) := hout 0 rfl
    have hl := Lib.hid (lnB_le hk.out)
    obtain ⟨tm, df⟩ := a'
    simp only at hd hs f0 f1 g0
    have e := lit_arr tm 37 hs
    rw [show (List.range 37).map (fun i => tm[i]?.getD undef) = [tm[0]?.getD undef, tm[1]?.getD undef, tm[2]?.getD undef, tm[3]?.getD undef, tm[4]?.getD undef, tm[5]?.getD undef, tm[6]?.getD undef, tm[7]?.getD undef, tm[8]?.getD undef, tm[9]?.getD undef, tm[10]?.getD undef, tm[11]?.getD undef, tm[12]?.getD undef, tm[13]?.getD undef, tm[14]?.getD undef, tm[15]?.getD undef, tm[16]?.getD undef, tm[17]?.getD undef, tm[18]?.getD undef, tm[19]?.getD undef, tm[20]?.getD undef, tm[21]?.getD undef, tm[22]?.getD undef, tm[23]?.getD undef, tm[24]?.getD undef, tm[25]?.getD undef, tm[26]?.getD undef, tm[27]?.getD undef, tm[28]?.getD undef, tm[29]?.getD undef, tm[30]?.getD undef, tm[31]?.getD undef, tm[32]?.getD undef, tm[33]?.getD undef, tm[34]?.getD undef, tm[35]?.getD undef, tm[36]?.getD undef] from rfl] at e
    simp only [g0, f1] at e
    clear hf hout hs
    rw [e, hd]
    clear e hd g0 f1
    obtain ⟨A, n, c, f0, hA, hc⟩ := f0
    rw [f0]
    clear f0
    generalize tm[1]?.getD undef = x1
    generalize tm[2]?.getD undef = x2
    generalize tm[3]?.getD undef = x3
    generalize tm[4]?.getD undef = x4
    generalize tm[7]?.getD undef = x7
    generalize tm[8]?.getD undef = x8
    generalize tm[9]?.getD undef = x9
    generalize tm[10]?.getD undef = x10
    generalize tm[11]?.getD undef = x11
    generalize tm[12]?.getD undef = x12
    generalize tm[13]?.getD undef = x13
    generalize tm[14]?.getD undef = x14
    generalize tm[15]?.getD undef = x15
    generalize tm[16]?.getD undef = x16
    generalize tm[17]?.getD undef = x17
    generalize tm[18]?.getD undef = x18
    generalize tm[19]?.getD undef = x19
    generalize tm[20]?.getD undef = x20
    generalize tm[21]?.getD undef = x21
    generalize tm[22]?.getD undef = x22
    generalize tm[23]?.getD undef = x23
    generalize tm[24]?.getD undef = x24
    generalize tm[25]?.getD undef = x25
    generalize tm[26]?.getD undef = x26
    generalize tm[27]?.getD undef = x27
    generalize tm[28]?.getD undef = x28
    generalize tm[29]?.getD undef = x29
    generalize tm[30]?.getD undef = x30
    generalize tm[31]?.getD undef = x31
    generalize tm[32]?.getD undef = x32
    generalize tm[33]?.getD undef = x33
    generalize tm[34]?.getD undef = x34
    generalize tm[35]?.getD undef = x35
    generalize tm[36]?.getD undef = x36
    have hbw : Hid (Below w.heap.size w w') := by
      show Below _ _ _
      subst hw1
      exact below_a hw
    clear hw hw1
    have hch := Lib.hid (chain_any A (lnB l) n c p w' hA.bytes hA.len hl.out (by have := hA.len; omega))
    go_wp2_with fail
    refine hch.out.mono ?_; rintro e w3 ⟨rfl, hb⟩
    replace hb := Lib.hid hb
    go_wp2_with fail
    go_ret
    exact ⟨rfl, hbw.out.trans (hb.out.mono hbw.out.size)⟩
end Go.Proofs.Ytiggpgeldigknaa
