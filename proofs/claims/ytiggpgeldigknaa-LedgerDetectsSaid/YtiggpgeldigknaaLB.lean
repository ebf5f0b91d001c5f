/- Ledger: the reference's Content and Hash. -/
import Derived.Test.YtiggpgeldigknaaCC
set_option linter.unusedVariables false
set_option linter.unusedSimpArgs false
namespace Go.Proofs.Ytiggpgeldigknaa
open Go.RowKit
theorem five_ok {l : Ln} (hk : LnOk l) (A0 A1 A2 A3 A4 : Option Addr) (n0 n1 n2 n3 n4 c0 c1 c2 c3 c4 : Nat) :
    FdOk [⟨1, A0, n0, c0, enc (zig l.seq)⟩, ⟨2, A1, n1, c1, enc (zig l.at_)⟩, ⟨3, A2, n2, c2, l.who.data.toList⟩, ⟨4, A3, n3, c3, l.what.data.toList⟩, ⟨5, A4, n4, c4, l.on.data.toList⟩] ∧ putB [⟨1, A0, n0, c0, enc (zig l.seq)⟩, ⟨2, A1, n1, c1, enc (zig l.at_)⟩, ⟨3, A2, n2, c2, l.who.data.toList⟩, ⟨4, A3, n3, c3, l.what.data.toList⟩, ⟨5, A4, n4, c4, l.on.data.toList⟩] = lnB l := by
  have hB : putB [⟨1, A0, n0, c0, enc (zig l.seq)⟩, ⟨2, A1, n1, c1, enc (zig l.at_)⟩, ⟨3, A2, n2, c2, l.who.data.toList⟩, ⟨4, A3, n3, c3, l.what.data.toList⟩, ⟨5, A4, n4, c4, l.on.data.toList⟩] = lnB l := by
    simp only [putB, List.flatMap_cons, List.flatMap_nil, put1, lnB, fdB, List.append_nil, List.append_assoc]
  refine ⟨?_, hB⟩
  have hl := lnB_le hk
  refine ⟨by simp, ?_, ?_, by rw [hB]; omega⟩
  · intro i h
    match i, h with
    | 0, _ => simp
    | 1, _ => simp
    | 2, _ => simp
    | 3, _ => simp
    | 4, _ => simp
  · intro i h
    match i, h with
    | 0, _ => simp
    | 1, _ => simp
    | 2, _ => simp
    | 3, _ => simp
theorem ln_box (w : World) (l : Ln) : ∀ wz, Below (w.alloc (.cells #[Value.int .i64 l.seq, Value.int .i64 l.at_, Value.string l.who, Value.string l.what, Value.string l.on, Value.int .u64 l.sum] 67)).heap.size (w.alloc (.cells #[Value.int .i64 l.seq, Value.int .i64 l.at_, Value.string l.who, Value.string l.what, Value.string l.on, Value.int .u64 l.sum] 67)) wz → wz.cell? ⟨w.heap.size, 0, none⟩ = some (Value.int .i64 l.seq) ∧ wz.cell? ⟨w.heap.size, 1, none⟩ = some (Value.int .i64 l.at_) ∧ wz.cell? ⟨w.heap.size, 2, none⟩ = some (Value.string l.who) ∧ wz.cell? ⟨w.heap.size, 3, none⟩ = some (Value.string l.what) ∧ wz.cell? ⟨w.heap.size, 4, none⟩ = some (Value.string l.on) := fun wz h => by
  have q := (Blk.new w 67 #[Value.int .i64 l.seq, Value.int .i64 l.at_, Value.string l.who, Value.string l.what, Value.string l.on, Value.int .u64 l.sum])
  have q := q.below h q.lt
  exact ⟨q.cell 0, q.cell 1, q.cell 2, q.cell 3, q.cell 4⟩
set_option maxRecDepth 100000 in
set_option maxHeartbeats 20000000 in
theorem rlcontent_any (l : Ln) (w : World) (hk : LnOk l) :
    Calls Try.prog 80 #[.agg (lnC l).toArray] w fun e w' => ∃ v, e = .returned v ∧ Sl (lnB l) v w' ∧ Below w.heap.size w w' := by
  obtain ⟨i1, hi1, hz10, hz11, hz12⟩ := info_parts fd_info
  replace hi1 := Lib.hid hi1
  replace hz10 := Lib.hid hz10
  replace hz11 := Lib.hid hz11
  replace hz12 := Lib.hid hz12
  replace hk := Lib.hid hk
  have kz := Lib.hid (ln_box w l)
  go_enter Try.func80, Try.ntmps80
  unfold lnC
  obtain ⟨k0, k1, k2, k3, k4⟩ := kz.out _ (Below.refl _ _)
  go_wp2_with fail
  clear k0 k1 k2 k3 k4
  generalize hw1 : w.alloc (.cells #[Value.int .i64 l.seq, Value.int .i64 l.at_, Value.string l.who, Value.string l.what, Value.string l.on, Value.int .u64 l.sum] 67) = w1 at kz
  have hb : Hid (Below w1.heap.size w1 w1) := Below.refl _ _
  have hL : Hid (LF w1 w1.heap.size (.slice none 0 0) []) := ⟨LOwn.nil fdC_len _ _, fun f hf => by cases hf⟩
  replace hw1 := Lib.hid hw1
  refine (rputInt_any l.seq w1 (by have := hk.out.s; have := hk.out.a; omega) (by have := hk.out.s; have := hk.out.a; omega)).mono ?_; rintro e u0 ⟨vd, rfl, ho, hbd⟩
  obtain ⟨A0, n0, c0, rfl, hd, -⟩ := bt_own ho
  clear ho
  replace hL := Lib.hid (hL.out.below hbd)
  replace hb := Lib.hid (hb.out.trans (hbd.mono hb.out.size))
  clear hbd
  obtain ⟨F0, hF0⟩ : ∃ f : Fd, f = ⟨1, A0, n0, c0, enc (zig l.seq)⟩ := ⟨_, rfl⟩
  replace hF0 := Lib.hid hF0
  obtain ⟨k0, k1, k2, k3, k4⟩ := kz.out _ hb.out
  have hda : Hid (BT (u0.alloc (.cells #[.int .i64 1, .slice A0 n0 c0] 117)) F0.A F0.n F0.d) := by show BT _ _ _ _; rw [hF0.out]; exact hd.alloc _
  have hrd : Hid (Reads (u0.alloc (.cells #[.int .i64 1, .slice A0 n0 c0] 117)) (u0.heap.size + 1) 2 (some ⟨u0.heap.size, 0, none⟩) 1 (flat fdC [F0])) := by show Reads _ _ _ _ _ _; rw [hF0.out]; exact fd_lit _ _ _ _ _ _
  clear hd
  replace hL : Hid (LF (u0.alloc (.cells #[.int .i64 1, .slice A0 n0 c0] 117)) w1.heap.size (.slice none 0 0) []) := hL.out.alloc _
  replace hb : Hid (Below w1.heap.size w1 (u0.alloc (.cells #[.int .i64 1, .slice A0 n0 c0] 117))) := hb.out.alloc hb.out.size _
  have hsz := Lib.hid hb.out.size
  go_wp2_with (first
    | (at_builtin
       refine wpList_append_any _ rfl (.tmp 6) (.tmp 11) _ rfl w1.heap.size 117 i1 _ 2 32 Try.underlying118 hi1.out hz10.out hz11.out hz12.out rfl (by omega) (.slice none 0 0) 0 (flat fdC []) rfl hL.out.own.2 (u0.heap.size + 1) (some ⟨u0.heap.size, 0, none⟩) 1 1 (flat fdC [F0]) rfl hrd.out (fd_one _) (by decide) (by decide) hsz.out ?_
       intro v1 w10 hown1 hg1 hat1
       have hb2 := Lib.hid (hb.out.trans (below_own2 hL.out.own.2 hsz.out hg1))
       have hL2 : Hid (LF w10 w1.heap.size v1 [F0]) := lf_app hL.out hda.out hown1 hg1
       clear hown1 hg1 hat1 hL hb hda hrd hsz k0 k1 k2 k3 k4
       have hL := hL2
       have hb := hb2
       clear hL2 hb2
       obtain ⟨k0, k1, k2, k3, k4⟩ := kz.out _ hb.out))
  clear k0 k1 k2 k3 k4
  refine (rputInt_any l.at_ w10 (by have := hk.out.s; have := hk.out.a; omega) (by have := hk.out.s; have := hk.out.a; omega)).mono ?_; rintro e u1 ⟨vd, rfl, ho, hbd⟩
  obtain ⟨A1, n1, c1, rfl, hd, -⟩ := bt_own ho
  clear ho
  replace hL := Lib.hid (hL.out.below hbd)
  replace hb := Lib.hid (hb.out.trans (hbd.mono hb.out.size))
  clear hbd
  obtain ⟨F1, hF1⟩ : ∃ f : Fd, f = ⟨2, A1, n1, c1, enc (zig l.at_)⟩ := ⟨_, rfl⟩
  replace hF1 := Lib.hid hF1
  obtain ⟨k0, k1, k2, k3, k4⟩ := kz.out _ hb.out
  have hda : Hid (BT (u1.alloc (.cells #[.int .i64 2, .slice A1 n1 c1] 117)) F1.A F1.n F1.d) := by show BT _ _ _ _; rw [hF1.out]; exact hd.alloc _
  have hrd : Hid (Reads (u1.alloc (.cells #[.int .i64 2, .slice A1 n1 c1] 117)) (u1.heap.size + 1) 2 (some ⟨u1.heap.size, 0, none⟩) 1 (flat fdC [F1])) := by show Reads _ _ _ _ _ _; rw [hF1.out]; exact fd_lit _ _ _ _ _ _
  clear hd
  replace hL : Hid (LF (u1.alloc (.cells #[.int .i64 2, .slice A1 n1 c1] 117)) w1.heap.size v1 [F0]) := hL.out.alloc _
  replace hb : Hid (Below w1.heap.size w1 (u1.alloc (.cells #[.int .i64 2, .slice A1 n1 c1] 117))) := hb.out.alloc hb.out.size _
  have hsz := Lib.hid hb.out.size
  go_wp2_with (first
    | (at_builtin
       refine wpList_append_any _ rfl (.tmp 13) (.tmp 18) _ rfl w1.heap.size 117 i1 _ 2 32 Try.underlying118 hi1.out hz10.out hz11.out hz12.out rfl (by omega) v1 1 (flat fdC [F0]) rfl hL.out.own.2 (u1.heap.size + 1) (some ⟨u1.heap.size, 0, none⟩) 1 1 (flat fdC [F1]) rfl hrd.out (fd_one _) (by decide) (by decide) hsz.out ?_
       intro v2 w11 hown1 hg1 hat1
       have hb2 := Lib.hid (hb.out.trans (below_own2 hL.out.own.2 hsz.out hg1))
       have hL2 : Hid (LF w11 w1.heap.size v2 [F0, F1]) := lf_app hL.out hda.out hown1 hg1
       clear hown1 hg1 hat1 hL hb hda hrd hsz k0 k1 k2 k3 k4
       have hL := hL2
       have hb := hb2
       clear hL2 hb2
       obtain ⟨k0, k1, k2, k3, k4⟩ := kz.out _ hb.out
       have hcv2 := run_bytes_of_string (P := Try.prog) w11 9 85 5 l.who Try.underlying9 Try.underlying85 Try.underlying5
       have hcap2 := Lib.hid (grownCap_ge w11 l.who.size 0 5)
       generalize grownCap w11 l.who.size 0 5 = cap2 at hcv2 hcap2
       obtain ⟨F2, hF2⟩ : ∃ f : Fd, f = ⟨3, some ⟨w11.heap.size, 0, none⟩, l.who.size, cap2, l.who.data.toList⟩ := ⟨_, rfl⟩
       replace hF2 := Lib.hid hF2
       have hda : Hid (BT (((w11.alloc (.cells (bytesRow l.who cap2) 5 ((bytesRow l.who cap2).size, (bytesRow l.who cap2).size + 1))).alloc (.cells #[.int .i64 3, .slice (some ⟨w11.heap.size, 0, none⟩) l.who.size cap2] 117)).drew) F2.A F2.n F2.d) := by show BT _ _ _ _; rw [hF2.out]; exact ((bt_conv w11 l.who cap2 (by have := hcap2.out; omega) _ _).alloc _).drew
       have hrd : Hid (Reads (((w11.alloc (.cells (bytesRow l.who cap2) 5 ((bytesRow l.who cap2).size, (bytesRow l.who cap2).size + 1))).alloc (.cells #[.int .i64 3, .slice (some ⟨w11.heap.size, 0, none⟩) l.who.size cap2] 117)).drew) (w11.heap.size + 1 + 1) 2 (some ⟨w11.heap.size + 1, 0, none⟩) 1 (flat fdC [F2])) := by show Reads _ _ _ _ _ _; rw [hF2.out]; have := (fd_lit (w11.alloc (.cells (bytesRow l.who cap2) 5 ((bytesRow l.who cap2).size, (bytesRow l.who cap2).size + 1))) 3 (some ⟨w11.heap.size, 0, none⟩) l.who.size cap2 (l.who.data.toList)).drew; simpa using this
       replace hL : Hid (LF (((w11.alloc (.cells (bytesRow l.who cap2) 5 ((bytesRow l.who cap2).size, (bytesRow l.who cap2).size + 1))).alloc (.cells #[.int .i64 3, .slice (some ⟨w11.heap.size, 0, none⟩) l.who.size cap2] 117)).drew) w1.heap.size v2 [F0, F1]) := ((hL.out.alloc _).alloc _).drew
       replace hb : Hid (Below w1.heap.size w1 (((w11.alloc (.cells (bytesRow l.who cap2) 5 ((bytesRow l.who cap2).size, (bytesRow l.who cap2).size + 1))).alloc (.cells #[.int .i64 3, .slice (some ⟨w11.heap.size, 0, none⟩) l.who.size cap2] 117)).drew)) := ((hb.out.alloc hb.out.size _).alloc (by have := hb.out.size; simp; omega) _).drew
       have hsz := Lib.hid hb.out.size)
    | (at_builtin
       refine wpList_append_any _ rfl (.tmp 20) (.tmp 25) _ rfl w1.heap.size 117 i1 _ 2 32 Try.underlying118 hi1.out hz10.out hz11.out hz12.out rfl (by omega) v2 2 (flat fdC [F0, F1]) rfl hL.out.own.2 (w11.heap.size + 1 + 1) (some ⟨w11.heap.size + 1, 0, none⟩) 1 1 (flat fdC [F2]) rfl hrd.out (fd_one _) (by decide) (by decide) hsz.out ?_
       intro v3 w12 hown1 hg1 hat1
       have hb2 := Lib.hid (hb.out.trans (below_own2 hL.out.own.2 hsz.out hg1))
       have hL2 : Hid (LF w12 w1.heap.size v3 [F0, F1, F2]) := lf_app hL.out hda.out hown1 hg1
       clear hcv2 hcap2
       clear hown1 hg1 hat1 hL hb hda hrd hsz k0 k1 k2 k3 k4
       have hL := hL2
       have hb := hb2
       clear hL2 hb2
       obtain ⟨k0, k1, k2, k3, k4⟩ := kz.out _ hb.out
       have hcv3 := run_bytes_of_string (P := Try.prog) w12 9 85 5 l.what Try.underlying9 Try.underlying85 Try.underlying5
       have hcap3 := Lib.hid (grownCap_ge w12 l.what.size 0 5)
       generalize grownCap w12 l.what.size 0 5 = cap3 at hcv3 hcap3
       obtain ⟨F3, hF3⟩ : ∃ f : Fd, f = ⟨4, some ⟨w12.heap.size, 0, none⟩, l.what.size, cap3, l.what.data.toList⟩ := ⟨_, rfl⟩
       replace hF3 := Lib.hid hF3
       have hda : Hid (BT (((w12.alloc (.cells (bytesRow l.what cap3) 5 ((bytesRow l.what cap3).size, (bytesRow l.what cap3).size + 1))).alloc (.cells #[.int .i64 4, .slice (some ⟨w12.heap.size, 0, none⟩) l.what.size cap3] 117)).drew) F3.A F3.n F3.d) := by show BT _ _ _ _; rw [hF3.out]; exact ((bt_conv w12 l.what cap3 (by have := hcap3.out; omega) _ _).alloc _).drew
       have hrd : Hid (Reads (((w12.alloc (.cells (bytesRow l.what cap3) 5 ((bytesRow l.what cap3).size, (bytesRow l.what cap3).size + 1))).alloc (.cells #[.int .i64 4, .slice (some ⟨w12.heap.size, 0, none⟩) l.what.size cap3] 117)).drew) (w12.heap.size + 1 + 1) 2 (some ⟨w12.heap.size + 1, 0, none⟩) 1 (flat fdC [F3])) := by show Reads _ _ _ _ _ _; rw [hF3.out]; have := (fd_lit (w12.alloc (.cells (bytesRow l.what cap3) 5 ((bytesRow l.what cap3).size, (bytesRow l.what cap3).size + 1))) 4 (some ⟨w12.heap.size, 0, none⟩) l.what.size cap3 (l.what.data.toList)).drew; simpa using this
       replace hL : Hid (LF (((w12.alloc (.cells (bytesRow l.what cap3) 5 ((bytesRow l.what cap3).size, (bytesRow l.what cap3).size + 1))).alloc (.cells #[.int .i64 4, .slice (some ⟨w12.heap.size, 0, none⟩) l.what.size cap3] 117)).drew) w1.heap.size v3 [F0, F1, F2]) := ((hL.out.alloc _).alloc _).drew
       replace hb : Hid (Below w1.heap.size w1 (((w12.alloc (.cells (bytesRow l.what cap3) 5 ((bytesRow l.what cap3).size, (bytesRow l.what cap3).size + 1))).alloc (.cells #[.int .i64 4, .slice (some ⟨w12.heap.size, 0, none⟩) l.what.size cap3] 117)).drew)) := ((hb.out.alloc hb.out.size _).alloc (by have := hb.out.size; simp; omega) _).drew
       have hsz := Lib.hid hb.out.size)
    | (at_builtin
       refine wpList_append_any _ rfl (.tmp 27) (.tmp 32) _ rfl w1.heap.size 117 i1 _ 2 32 Try.underlying118 hi1.out hz10.out hz11.out hz12.out rfl (by omega) v3 3 (flat fdC [F0, F1, F2]) rfl hL.out.own.2 (w12.heap.size + 1 + 1) (some ⟨w12.heap.size + 1, 0, none⟩) 1 1 (flat fdC [F3]) rfl hrd.out (fd_one _) (by decide) (by decide) hsz.out ?_
       intro v4 w13 hown1 hg1 hat1
       have hb2 := Lib.hid (hb.out.trans (below_own2 hL.out.own.2 hsz.out hg1))
       have hL2 : Hid (LF w13 w1.heap.size v4 [F0, F1, F2, F3]) := lf_app hL.out hda.out hown1 hg1
       clear hcv3 hcap3
       clear hown1 hg1 hat1 hL hb hda hrd hsz k0 k1 k2 k3 k4
       have hL := hL2
       have hb := hb2
       clear hL2 hb2
       obtain ⟨k0, k1, k2, k3, k4⟩ := kz.out _ hb.out
       have hcv4 := run_bytes_of_string (P := Try.prog) w13 9 85 5 l.on Try.underlying9 Try.underlying85 Try.underlying5
       have hcap4 := Lib.hid (grownCap_ge w13 l.on.size 0 5)
       generalize grownCap w13 l.on.size 0 5 = cap4 at hcv4 hcap4
       obtain ⟨F4, hF4⟩ : ∃ f : Fd, f = ⟨5, some ⟨w13.heap.size, 0, none⟩, l.on.size, cap4, l.on.data.toList⟩ := ⟨_, rfl⟩
       replace hF4 := Lib.hid hF4
       have hda : Hid (BT (((w13.alloc (.cells (bytesRow l.on cap4) 5 ((bytesRow l.on cap4).size, (bytesRow l.on cap4).size + 1))).alloc (.cells #[.int .i64 5, .slice (some ⟨w13.heap.size, 0, none⟩) l.on.size cap4] 117)).drew) F4.A F4.n F4.d) := by show BT _ _ _ _; rw [hF4.out]; exact ((bt_conv w13 l.on cap4 (by have := hcap4.out; omega) _ _).alloc _).drew
       have hrd : Hid (Reads (((w13.alloc (.cells (bytesRow l.on cap4) 5 ((bytesRow l.on cap4).size, (bytesRow l.on cap4).size + 1))).alloc (.cells #[.int .i64 5, .slice (some ⟨w13.heap.size, 0, none⟩) l.on.size cap4] 117)).drew) (w13.heap.size + 1 + 1) 2 (some ⟨w13.heap.size + 1, 0, none⟩) 1 (flat fdC [F4])) := by show Reads _ _ _ _ _ _; rw [hF4.out]; have := (fd_lit (w13.alloc (.cells (bytesRow l.on cap4) 5 ((bytesRow l.on cap4).size, (bytesRow l.on cap4).size + 1))) 5 (some ⟨w13.heap.size, 0, none⟩) l.on.size cap4 (l.on.data.toList)).drew; simpa using this
       replace hL : Hid (LF (((w13.alloc (.cells (bytesRow l.on cap4) 5 ((bytesRow l.on cap4).size, (bytesRow l.on cap4).size + 1))).alloc (.cells #[.int .i64 5, .slice (some ⟨w13.heap.size, 0, none⟩) l.on.size cap4] 117)).drew) w1.heap.size v4 [F0, F1, F2, F3]) := ((hL.out.alloc _).alloc _).drew
       replace hb : Hid (Below w1.heap.size w1 (((w13.alloc (.cells (bytesRow l.on cap4) 5 ((bytesRow l.on cap4).size, (bytesRow l.on cap4).size + 1))).alloc (.cells #[.int .i64 5, .slice (some ⟨w13.heap.size, 0, none⟩) l.on.size cap4] 117)).drew)) := ((hb.out.alloc hb.out.size _).alloc (by have := hb.out.size; simp; omega) _).drew
       have hsz := Lib.hid hb.out.size)
    | (at_builtin
       refine wpList_append_any _ rfl (.tmp 34) (.tmp 39) _ rfl w1.heap.size 117 i1 _ 2 32 Try.underlying118 hi1.out hz10.out hz11.out hz12.out rfl (by omega) v4 4 (flat fdC [F0, F1, F2, F3]) rfl hL.out.own.2 (w13.heap.size + 1 + 1) (some ⟨w13.heap.size + 1, 0, none⟩) 1 1 (flat fdC [F4]) rfl hrd.out (fd_one _) (by decide) (by decide) hsz.out ?_
       intro v5 w14 hown1 hg1 hat1
       have hb2 := Lib.hid (hb.out.trans (below_own2 hL.out.own.2 hsz.out hg1))
       have hL2 : Hid (LF w14 w1.heap.size v5 [F0, F1, F2, F3, F4]) := lf_app hL.out hda.out hown1 hg1
       clear hcv4 hcap4
       clear hown1 hg1 hat1 hL hb hda hrd hsz k0 k1 k2 k3 k4
       have hL := hL2
       have hb := hb2
       clear hL2 hb2
       obtain ⟨k0, k1, k2, k3, k4⟩ := kz.out _ hb.out))
  clear k0 k1 k2 k3 k4
  have h7 : FdOk [F0, F1, F2, F3, F4] ∧ putB [F0, F1, F2, F3, F4] = lnB l := by
    rw [hF0.out, hF1.out, hF2.out, hF3.out, hF4.out]
    exact five_ok hk.out _ _ _ _ _ _ _ _ _ _ _ _ _ _ _
  obtain ⟨A9, c9, rfl, -, -, -, hA9⟩ := hL.out.own.form
  refine (rput_any A9 _ _ c9 w14 hA9 (fun f hf => (hL.out.dat f hf).1) h7.1).mono ?_; rintro e w17 ⟨v, rfl, ho, hb9⟩
  rw [h7.2] at ho
  have hs := Lib.hid (own_sl (w' := w17) ho)
  have hbw : Hid (Below w.heap.size w w17) := by
    show Below _ _ _
    have h1 := hb.out.trans (hb9.mono hb.out.size)
    have hw1 := hw1.out
    subst hw1
    exact below_a h1
  clear ho hb9 h7 hA9
  go_wp2_with fail
  go_ret
  exact ⟨_, rfl, hs.out, hbw.out⟩
def hashL (p : Int) (l : Ln) : Int := Sip.sum p (lnB l)
set_option maxRecDepth 100000 in
set_option maxHeartbeats 8000000 in
theorem rhash_any (p : Int) (l : Ln) (w : World) (hk : LnOk l) :
    Calls Try.prog 49 #[.int .u64 p, .agg (lnC l).toArray] w fun e w' => e = .returned (.int .u64 (hashL p l)) ∧ Below w.heap.size w w' := by
  have hl := Lib.hid (lnB_le hk)
  replace hk := Lib.hid hk
  have hS : Hid (hashL p l = Sip.sum p (lnB l)) := rfl
  have hR := fun w => rlcontent_any l w hk.out
  generalize lnB l = cb at *
  have kz := Lib.hid (ln_box w l)
  go_enter Try.func49, Try.ntmps49
  unfold lnC
  obtain ⟨k0, k1, k2, k3, k4⟩ := kz.out _ (Below.refl _ _)
  replace hR := Lib.hid hR
  go_wp2_with fail
  refine (hR.out _).mono ?_; rintro e w2 ⟨v, rfl, hs, hb⟩
  obtain ⟨A, n, cp, rfl, hA, hc⟩ := hs
  have hsum := Lib.hid (rchain_any A cb n cp p w2 hA.bytes hA.len hl.out)
  have hb2 := Lib.hid (below_a hb)
  clear hA hb k0 k1 k2 k3 k4
  go_wp2_with fail
  refine hsum.out.mono ?_; rintro e w3 ⟨rfl, hb3⟩
  replace hb3 := Lib.hid hb3
  go_wp2_with fail
  go_ret
  exact ⟨by rw [hS.out]; rfl, hb2.out.trans (hb3.out.mono hb2.out.size)⟩
end Go.Proofs.Ytiggpgeldigknaa
