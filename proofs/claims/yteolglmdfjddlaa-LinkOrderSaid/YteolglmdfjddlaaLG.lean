/- Links: Send, walked. -/
import Derived.Test.YteolglmdfjddlaaLF
import Derived.Test.YteolglmdfjddlaaRT
import Derived.Maps.Views
import Derived.Maps.OwnSet
set_option linter.unusedVariables false
set_option linter.unusedSimpArgs false
namespace Go.Proofs.Yteolglmdfjddlaa
open Go.RowKit
section
variable {P : Program} (w : World)
/-- behind an append onto an own row the row itself still reads as before -/
theorem append_old (base : Nat) (t ty e : TypeId) (i : TypeInfo) (z : Value) (size bytes : Nat) (ht : P.underlying t = some (.slice e)) (hi : P.info? e = some i) (hz : i.zero = some z)
    (hsize : i.size = size) (hby : i.bytes = bytes)
    (v : Value) (n : Nat) (xs : List Value) (hown : w.ownsRow base e size v n xs)
    (B : Nat) (A : Option Addr) (m c : Nat) (news : List Value) (hr : Reads w B size A m news) (h1 : ∀ u ∈ news, u.oneCell' = true)
    (h63 : n + m ≤ maxLen) (hbytes : (n + m) * bytes ≤ 140737488355328)
    (v' : Value) (w' : World) (hrun : (Builtin.append_ #[t, t] ty #[v, .slice A m c]).run P w = .ok v' w') :
    w'.ownsRow base e size v n xs := by
  rcases append_kept w base t ty e i z size bytes ht hi hz hsize hby v n xs hown B A m c news hr h63 hbytes v' w' hrun with hb | ⟨g, cap, rfl, hroom, hm⟩
  · rcases hown.2 with hn | ⟨g, cap, cur, rfl, hb0, hg, rest⟩
    · exact ⟨hown.1, .inl hn⟩
    · exact ⟨hown.1, .inr ⟨g, cap, cur, rfl, hb0, (hb.block g (lt_of_heap hg)).trans hg, rest⟩⟩
  · obtain ⟨hl, h2⟩ := hown
    rcases h2 with ⟨e1, _⟩ | ⟨g2, cap2, cur, e1, hb0, hg, hnc, hcm, hsz, htk⟩
    · cases e1
    · injection e1 with e1 _ e3
      injection e1 with e1
      injection e1 with e1
      subst e1; subst e3
      obtain ⟨ad, rfl, _, hcells⟩ := hr.2 hm
      have hle : (n + m) * size ≤ cap * size := Nat.mul_le_mul_right _ hroom
      rw [Nat.add_mul] at hle
      have hnl : news.length = m * size := hr.1
      have h := run_append_room (P := P) w t ty e i ht hi g n cap cur hg ad m c news (by rw [hsize]; exact hnl) hcells h1 hroom (by rw [hsize, hnl, hsz]; exact hle)
      rw [hrun] at h
      injection h with e1 e2
      subst e2
      rw [hsize]
      refine ⟨hl, .inr ⟨g, cap, _, rfl, hb0, setRow_heap w g cur _ e _ hg, hnc, hcm, ?_, ?_⟩⟩
      · simp [hnl]
        have : min (n * size) cur.size = n * size := Nat.min_eq_left (by omega)
        omega
      · have h5 : (cur.toList.take (n * size)).length = n * size := by simp; omega
        simp only [List.append_assoc]
        rw [List.take_left' h5]
        exact htk
theorem wp_append_old {o : Oper} {a : Act} {K : Act → World → Prop} {Q : Exit → Act → World → Prop} (s x : Operand) (t : TypeId)
    (ho : o.op = .call { callee := .builtin .append, args := #[s, x], argTypes := #[t, t] })
    (base : Nat) (e : TypeId) (i : TypeInfo) (z : Value) (size bytes : Nat) (ht : P.underlying t = some (.slice e)) (hi : P.info? e = some i) (hz : i.zero = some z)
    (hsize : i.size = size) (hby : i.bytes = bytes) (hzs : z.cells.size = size) (hsz : 0 < size)
    (v : Value) (n : Nat) (xs : List Value) (hs : a.eval s = v) (hown : w.ownsRow base e size v n xs)
    (B : Nat) (A : Option Addr) (m c : Nat) (news : List Value) (hx : a.eval x = .slice A m c) (hr : Reads w B size A m news) (h1 : ∀ u ∈ news, u.oneCell' = true)
    (h63 : n + m ≤ maxLen) (hbytes : (n + m) * bytes ≤ 140737488355328) (hbase : base ≤ w.heap.size)
    (h : ∀ v' w', w'.ownsRow base e size v' (n + m) (xs ++ news) → w.grownBy w' v.ownBlock → w'.ownsRow base e size v n xs → K (a.put o.dst v') w') : o.wp P a w K Q := by
  obtain ⟨v', w', hrun, h2, h3, h4⟩ := run_append_any (P := P) w base t o.type e i z size bytes ht hi hz hsize hby hzs hsz v n xs hown B A m c news hr h1 h63 hbytes hbase
  have hk := append_old (P := P) w base t o.type e i z size bytes ht hi hz hsize hby v n xs hown B A m c news hr h1 h63 hbytes v' w' hrun
  unfold Oper.wp execOp
  simp only [ho, resolve, invoke, builtin, Sem.run_bind, Sem.run_pure, Result.andThen_ok, List.map_toArray, List.map_cons, List.map_nil, hs, hx, hrun]
  exact h v' w' h2 h3 hk
end
/-- a literal of one packet whose bytes are new -/
def Lit1D (base : Nat) (due : Int) (d : List UInt8) (v : Value) (w : World) : Prop := ∃ g A c, v = .slice (some ⟨g, 0, none⟩) 1 1 ∧ base ≤ g ∧ Blk w g 29 #[.int .i64 due, .slice A d.length c] ∧ BOwn w base (.slice A d.length c) d
theorem Lit1D.more {base : Nat} {due : Int} {d : List UInt8} {v : Value} {w w' : World} (h : Lit1D base due d v w) (hb : Below w.heap.size w w') : Lit1D base due d v w' := by
  obtain ⟨g, A, c, e, h1, h2, h3⟩ := h
  exact ⟨g, A, c, e, h1, h2.below hb h2.lt, h3.kept hb⟩
/-- the row with the new packet -/
def RowD (base pb : Nat) (due : Int) (d : List UInt8) (box : List Pk) (v : Value) (w : World) : Prop := ∃ A c, LOwn pkC 2 29 w pb v (box ++ [⟨due, A, d.length, c, d⟩]) ∧ BOwn w base (.slice A d.length c) d
theorem RowD.more {base pb : Nat} {due : Int} {d : List UInt8} {box : List Pk} {v : Value} {w w' : World} (h : RowD base pb due d box v w) (hb : Below w.heap.size w w') : RowD base pb due d box v w' := by
  obtain ⟨A, c, h1, h2⟩ := h
  exact ⟨A, c, h1.kept hb, h2.kept hb⟩
theorem zeroB (w : World) : (zeroValue 4).run Try.prog w = .ok (.bool false) w := by kernel_rfl
theorem lookup_bool {w : World} {b n : Nat} {D : DataW Unit} (h : w.ownsMap Try.prog 3 (plainElem (H := Unit) Try.prog 4) b n D) (x : Int) (hx : (Lit.int .i64 x).wf = true) (c : Bool) (hc : D.atKey (.int .i64 x) (.lit (.bool false)) = .lit (.bool c)) : (Instr.lookup 60 (.map (some b)) (.int .i64 x) false).run Try.prog w = .ok (.bool c) w := by
  obtain ⟨v, ps, hrun, hv⟩ := h.lookup (Maps.int_keyed Try.underlying3) Try.underlying60 (zeroB w) (plainElem_bool Try.underlying4 false) (Maps.keyOf_int_mk Try.underlying3 hx)
  rw [hc] at hv
  have hv2 : v = .bool c := by
    unfold plainElem at hv
    rw [Try.underlying4] at hv
    cases v <;> simp at hv
    obtain ⟨hv, _⟩ := hv
    rw [hv]
  rw [hrun, hv2]
theorem wf_of_i64 {x : Int} (h : i64In x) : (Lit.int .i64 x).wf = true := by
  unfold i64In at h
  simp [Lit.wf, IntKind.min, IntKind.max, IntKind.signed, IntKind.bits]
  omega
def F13 (g0 g10 base pb : Nat) (A A2 : Option Addr) (n2 c c2 : Nat) (now delay : Int) (ds : List UInt8) (box : List Pk) : Tmp → Value → World → Prop
  | 1, v, _ => v = .slice A ds.length c
  | 2, v, _ => v = .pointer (some ⟨g0, 0, none⟩)
  | 10, v, _ => v = .pointer (some ⟨g10, 0, none⟩)
  | 56, v, _ => v = .pointer (some ⟨g10, 5, none⟩)
  | 57, v, _ => v = .slice A2 n2 c2
  | 58, v, _ => v = .pointer (some ⟨g0, 0, none⟩)
  | 59, v, _ => v = .int .i64 now
  | 60, v, _ => v = .pointer (some ⟨g0, 1, none⟩)
  | 61, v, _ => v = .int .i64 delay
  | 62, v, _ => v = .int .i64 (now + delay)
  | 63, v, _ => v = .slice A ds.length c
  | 64, v, w => BOwn w base v ds
  | 65, v, w => PkV base (now + delay) ds v w
  | 66, v, w => Lit1D base (now + delay) ds v w
  | 67, v, w => RowD base pb (now + delay) ds box v w
  | 68, v, _ => v = .pointer (some ⟨g10, 5, none⟩)
  | _, _, _ => True
def R13 (vO : Option Nat) (d : Tmp) (w w' : World) : Prop := if d = 67 then w.grownBy w' vO else Below w.heap.size w w'
theorem F13_more {g0 g10 base pb : Nat} {A A2 : Option Addr} {n2 c c2 : Nat} {now delay : Int} {ds : List UInt8} {box : List Pk} (hvO : ∀ g, (Value.slice A2 n2 c2).ownBlock = some g → g < base) (d t : Tmp) (v : Value) (w w' : World) (hR : R13 (Value.slice A2 n2 c2).ownBlock d w w') (hne : t ≠ d) (hc : [((67 : Nat), (66 : Nat))].contains (d, t) = false) (h : F13 g0 g10 base pb A A2 n2 c c2 now delay ds box t v w) : F13 g0 g10 base pb A A2 n2 c c2 now delay ds box t v w' := by
  unfold R13 at hR
  by_cases hd : d = 67
  · subst hd
    rw [if_pos rfl] at hR
    unfold F13 at *
    split at h <;> first
      | exact h
      | exact absurd rfl hne
      | exact absurd hc (by decide)
      | exact bown_grown h hR hvO
      | (obtain ⟨A', c', e, hB⟩ := h; exact ⟨A', c', e, bown_grown hB hR hvO⟩)
  · rw [if_neg hd] at hR
    unfold F13 at *
    split at h <;> first | exact h | exact LOwn.kept h hR | exact PkV.more h hR | exact Lit1D.more h hR | exact RowD.more h hR
set_option maxRecDepth 100000 in
set_option maxHeartbeats 8000000 in
theorem send_any (l : Lk) (A : Option Addr) (n c : Nat) (d : List UInt8) (w : World) (h : LkOk w l) (hs : LkSm l) (hd : BAt w w.heap.size A n d) (hnc : n ≤ c ∧ c ≤ maxLen) (hnd : 0 ≤ l.now ∧ l.now ≤ 268435456 ∧ 1 ≤ l.delay ∧ l.delay ≤ 60 ∧ 0 ≤ l.count) :
    Calls Try.prog 13 #[lkV l, .slice A n c] w fun e w' => (∃ l', e = .returned (.tuple #[lkV l', .int .i64 (sendL l.val d).2]) ∧ LkOk w' l' ∧ l'.val = (sendL l.val d).1 ∧ ((sendL l.val d).2 = 0 → LkFr w.heap.size l') ∧ LkK w.heap.size l l') ∧ Below w.heap.size w w' := by
  have hdl := Lib.hid hd.len
  have hbn := Lib.hid h.ba.len
  have hln := Lib.hid h.la.len
  obtain ⟨now, delay, cut, count, lA, ln, lc, lose, bA, bn, bc, box⟩ := l
  have hs0 := Lib.hid hs
  obtain ⟨s1, s2, s3⟩ := hs
  obtain ⟨n1, n2, n3, n4, n5⟩ := hnd
  simp only [lkV, Lk.val] at *
  have hbn1 : bn ≤ 1000 := by have := hbn.out; omega
  have hln1 : ln ≤ 1000 := by have := hln.out; omega
  have hcr := h.ii.2.2
  unfold i64In at hcr
  obtain ⟨hcr1, hcr2⟩ := hcr
  simp only at hcr1 hcr2
  replace h := Lib.hid h
  replace s3 := Lib.hid s3
  replace hd := Lib.hid hd
  have hX0 := Lib.hid ((Blk.new w 25 #[Value.int .i64 now, Value.int .i64 delay, Value.bool cut, Value.int .i64 count, Value.slice lA ln lc, Value.slice bA bn bc]).alloc (.cells #[Value.int .i64 0, Value.int .i64 0, Value.bool false, Value.int .i64 0, Value.slice none 0 0, Value.slice none 0 0] 25))
  have hZ0 := Lib.hid (Blk.new (w.alloc (.cells #[Value.int .i64 now, Value.int .i64 delay, Value.bool cut, Value.int .i64 count, Value.slice lA ln lc, Value.slice bA bn bc] 25)) 25 #[Value.int .i64 0, Value.int .i64 0, Value.bool false, Value.int .i64 0, Value.slice none 0 0, Value.slice none 0 0])
  have hb0 : Hid (Below w.heap.size w ((w.alloc (.cells #[Value.int .i64 now, Value.int .i64 delay, Value.bool cut, Value.int .i64 count, Value.slice lA ln lc, Value.slice bA bn bc] 25)).alloc (.cells #[Value.int .i64 0, Value.int .i64 0, Value.bool false, Value.int .i64 0, Value.slice none 0 0, Value.slice none 0 0] 25))) := (a1 w _).alloc (by simp) _
  rw [show (w.alloc (.cells #[Value.int .i64 now, Value.int .i64 delay, Value.bool cut, Value.int .i64 count, Value.slice lA ln lc, Value.slice bA bn bc] 25)).heap.size = w.heap.size + 1 by simp] at hZ0
  obtain ⟨k0, k1, k2, k3, k4, k5⟩ := (show ((w.alloc (.cells #[Value.int .i64 now, Value.int .i64 delay, Value.bool cut, Value.int .i64 count, Value.slice lA ln lc, Value.slice bA bn bc] 25)).alloc (.cells #[Value.int .i64 0, Value.int .i64 0, Value.bool false, Value.int .i64 0, Value.slice none 0 0, Value.slice none 0 0] 25)).cell? ⟨w.heap.size, 0, none⟩ = some (Value.int .i64 now) ∧ ((w.alloc (.cells #[Value.int .i64 now, Value.int .i64 delay, Value.bool cut, Value.int .i64 count, Value.slice lA ln lc, Value.slice bA bn bc] 25)).alloc (.cells #[Value.int .i64 0, Value.int .i64 0, Value.bool false, Value.int .i64 0, Value.slice none 0 0, Value.slice none 0 0] 25)).cell? ⟨w.heap.size, 1, none⟩ = some (Value.int .i64 delay) ∧ ((w.alloc (.cells #[Value.int .i64 now, Value.int .i64 delay, Value.bool cut, Value.int .i64 count, Value.slice lA ln lc, Value.slice bA bn bc] 25)).alloc (.cells #[Value.int .i64 0, Value.int .i64 0, Value.bool false, Value.int .i64 0, Value.slice none 0 0, Value.slice none 0 0] 25)).cell? ⟨w.heap.size, 2, none⟩ = some (Value.bool cut) ∧ ((w.alloc (.cells #[Value.int .i64 now, Value.int .i64 delay, Value.bool cut, Value.int .i64 count, Value.slice lA ln lc, Value.slice bA bn bc] 25)).alloc (.cells #[Value.int .i64 0, Value.int .i64 0, Value.bool false, Value.int .i64 0, Value.slice none 0 0, Value.slice none 0 0] 25)).cell? ⟨w.heap.size, 3, none⟩ = some (Value.int .i64 count) ∧ ((w.alloc (.cells #[Value.int .i64 now, Value.int .i64 delay, Value.bool cut, Value.int .i64 count, Value.slice lA ln lc, Value.slice bA bn bc] 25)).alloc (.cells #[Value.int .i64 0, Value.int .i64 0, Value.bool false, Value.int .i64 0, Value.slice none 0 0, Value.slice none 0 0] 25)).cell? ⟨w.heap.size, 4, none⟩ = some (Value.slice lA ln lc) ∧ ((w.alloc (.cells #[Value.int .i64 now, Value.int .i64 delay, Value.bool cut, Value.int .i64 count, Value.slice lA ln lc, Value.slice bA bn bc] 25)).alloc (.cells #[Value.int .i64 0, Value.int .i64 0, Value.bool false, Value.int .i64 0, Value.slice none 0 0, Value.slice none 0 0] 25)).cell? ⟨w.heap.size, 5, none⟩ = some (Value.slice bA bn bc) from ⟨hX0.out.cell 0, hX0.out.cell 1, hX0.out.cell 2, hX0.out.cell 3, hX0.out.cell 4, hX0.out.cell 5⟩)
  by_cases q1 : 8198 < n
  · have q1i : (8198 : Int) < (n : Int) := by omega
    have q1d : decide ((8198 : Int) < (n : Int)) = true := by simp; omega
    have hF := Lib.hid (send_long ⟨now, delay, cut, count, lose, box.map Pk.val⟩ d (.inl (by rw [hdl.out]; exact q1)))
    go_enter Try.func13, Try.ntmps13
    go_wp2_with fail
    (try simp only [Exit.inBlock, Exit.then])
    have hB := Blk.new (w.alloc (.cells #[Value.int .i64 now, Value.int .i64 delay, Value.bool cut, Value.int .i64 count, Value.slice lA ln lc, Value.slice bA bn bc] 25)) 25 #[Value.int .i64 now, Value.int .i64 delay, Value.bool cut, Value.int .i64 count, Value.slice lA ln lc, Value.slice bA bn bc]
    rw [show (w.alloc (.cells #[Value.int .i64 now, Value.int .i64 delay, Value.bool cut, Value.int .i64 count, Value.slice lA ln lc, Value.slice bA bn bc] 25)).heap.size = w.heap.size + 1 by simp] at hB
    have hbF : Below w.heap.size w ((w.alloc (.cells #[Value.int .i64 now, Value.int .i64 delay, Value.bool cut, Value.int .i64 count, Value.slice lA ln lc, Value.slice bA bn bc] 25)).alloc (.cells #[Value.int .i64 now, Value.int .i64 delay, Value.bool cut, Value.int .i64 count, Value.slice lA ln lc, Value.slice bA bn bc] 25)) := (a1 w _).alloc (by simp) _
    refine bodyPost_ret (v := .tuple #[.agg #[Value.int .i64 now, Value.int .i64 delay, Value.bool cut, Value.int .i64 count, Value.slice lA ln lc, Value.slice bA bn bc], .int .i64 3]) ?_ rfl ?_
    · refine (res2 (fn := Try.f13) (p := 4) (u := 5) (ty := 25) rfl _ _ (w.heap.size + 1) 25 _ (0, 0) _ ?_ hB Try.underlying25 rfl (by kernel_rfl)).trans ?_
      · rfl
      · rfl
    clear hB
    exact ⟨⟨⟨now, delay, cut, count, lA, ln, lc, lose, bA, bn, bc, box⟩, by rw [hF.out]; try rfl, h.out.more hbF, by rw [hF.out]; try rfl, by rw [hF.out]; intro h8; exact absurd h8 (by simp), fun Q hQ _ => hQ⟩, hbF⟩
  have q1i : ¬ (8198 : Int) < (n : Int) := by omega
  have q1d : decide ((8198 : Int) < (n : Int)) = false := by simp; omega
  by_cases q2 : 2147483647 ≤ count
  · have q2d : decide (2147483647 ≤ count) = true := by simpa using q2
    have hF := Lib.hid (send_long ⟨now, delay, cut, count, lose, box.map Pk.val⟩ d (.inr q2))
    go_enter Try.func13, Try.ntmps13
    go_wp2_with fail
    (try simp only [Exit.inBlock, Exit.then])
    have hB := Blk.new (w.alloc (.cells #[Value.int .i64 now, Value.int .i64 delay, Value.bool cut, Value.int .i64 count, Value.slice lA ln lc, Value.slice bA bn bc] 25)) 25 #[Value.int .i64 now, Value.int .i64 delay, Value.bool cut, Value.int .i64 count, Value.slice lA ln lc, Value.slice bA bn bc]
    rw [show (w.alloc (.cells #[Value.int .i64 now, Value.int .i64 delay, Value.bool cut, Value.int .i64 count, Value.slice lA ln lc, Value.slice bA bn bc] 25)).heap.size = w.heap.size + 1 by simp] at hB
    have hbF : Below w.heap.size w ((w.alloc (.cells #[Value.int .i64 now, Value.int .i64 delay, Value.bool cut, Value.int .i64 count, Value.slice lA ln lc, Value.slice bA bn bc] 25)).alloc (.cells #[Value.int .i64 now, Value.int .i64 delay, Value.bool cut, Value.int .i64 count, Value.slice lA ln lc, Value.slice bA bn bc] 25)) := (a1 w _).alloc (by simp) _
    refine bodyPost_ret (v := .tuple #[.agg #[Value.int .i64 now, Value.int .i64 delay, Value.bool cut, Value.int .i64 count, Value.slice lA ln lc, Value.slice bA bn bc], .int .i64 3]) ?_ rfl ?_
    · refine (res2 (fn := Try.f13) (p := 4) (u := 5) (ty := 25) rfl _ _ (w.heap.size + 1) 25 _ (0, 0) _ ?_ hB Try.underlying25 rfl (by kernel_rfl)).trans ?_
      · rfl
      · rfl
    clear hB
    exact ⟨⟨⟨now, delay, cut, count, lA, ln, lc, lose, bA, bn, bc, box⟩, by rw [hF.out]; try rfl, h.out.more hbF, by rw [hF.out]; try rfl, by rw [hF.out]; intro h8; exact absurd h8 (by simp), fun Q hQ _ => hQ⟩, hbF⟩
  have q2d : decide (2147483647 ≤ count) = false := by simpa using q2
  have hno : Hid (¬ (8198 < d.length ∨ 2147483647 ≤ count)) := by show ¬ _; rw [hdl.out]; omega
  have hcw : IntKind.i64.wrap (count + 1) = count + 1 := IntWalk.i64_in _ (by omega)
  have hmm := @run_makeMap Try.prog
  have hX1 := Lib.hid (hX0.out.alloc (.map #[] 0))
  have hZ1 := Lib.hid (hZ0.out.alloc (.map #[] 0))
  have hb1 : Hid (Below w.heap.size w (((w.alloc (.cells #[Value.int .i64 now, Value.int .i64 delay, Value.bool cut, Value.int .i64 count, Value.slice lA ln lc, Value.slice bA bn bc] 25)).alloc (.cells #[Value.int .i64 0, Value.int .i64 0, Value.bool false, Value.int .i64 0, Value.slice none 0 0, Value.slice none 0 0] 25)).alloc (.map #[] 0))) := hb0.out.alloc hb0.out.size _
  have hM1 : Hid ((((w.alloc (.cells #[Value.int .i64 now, Value.int .i64 delay, Value.bool cut, Value.int .i64 count, Value.slice lA ln lc, Value.slice bA bn bc] 25)).alloc (.cells #[Value.int .i64 0, Value.int .i64 0, Value.bool false, Value.int .i64 0, Value.slice none 0 0, Value.slice none 0 0] 25)).alloc (.map #[] 0)).ownsMap Try.prog 3 (plainElem (H := Unit) Try.prog 4) (w.heap.size + 1 + 1) 0 (.map [])) := by
    have := World.ownsMap_made ((w.alloc (.cells #[Value.int .i64 now, Value.int .i64 delay, Value.bool cut, Value.int .i64 count, Value.slice lA ln lc, Value.slice bA bn bc] 25)).alloc (.cells #[Value.int .i64 0, Value.int .i64 0, Value.bool false, Value.int .i64 0, Value.slice none 0 0, Value.slice none 0 0] 25)) Try.prog 3 (plainElem (H := Unit) Try.prog 4)
    rw [show ((w.alloc (.cells #[Value.int .i64 now, Value.int .i64 delay, Value.bool cut, Value.int .i64 count, Value.slice lA ln lc, Value.slice bA bn bc] 25)).alloc (.cells #[Value.int .i64 0, Value.int .i64 0, Value.bool false, Value.int .i64 0, Value.slice none 0 0, Value.slice none 0 0] 25)).heap.size = w.heap.size + 1 + 1 by simp] at this
    exact this
  obtain ⟨j0, j1, j2, j3, j4, j5⟩ := (show (((w.alloc (.cells #[Value.int .i64 now, Value.int .i64 delay, Value.bool cut, Value.int .i64 count, Value.slice lA ln lc, Value.slice bA bn bc] 25)).alloc (.cells #[Value.int .i64 0, Value.int .i64 0, Value.bool false, Value.int .i64 0, Value.slice none 0 0, Value.slice none 0 0] 25)).alloc (.map #[] 0)).cell? ⟨w.heap.size, 0, none⟩ = some (Value.int .i64 now) ∧ (((w.alloc (.cells #[Value.int .i64 now, Value.int .i64 delay, Value.bool cut, Value.int .i64 count, Value.slice lA ln lc, Value.slice bA bn bc] 25)).alloc (.cells #[Value.int .i64 0, Value.int .i64 0, Value.bool false, Value.int .i64 0, Value.slice none 0 0, Value.slice none 0 0] 25)).alloc (.map #[] 0)).cell? ⟨w.heap.size, 1, none⟩ = some (Value.int .i64 delay) ∧ (((w.alloc (.cells #[Value.int .i64 now, Value.int .i64 delay, Value.bool cut, Value.int .i64 count, Value.slice lA ln lc, Value.slice bA bn bc] 25)).alloc (.cells #[Value.int .i64 0, Value.int .i64 0, Value.bool false, Value.int .i64 0, Value.slice none 0 0, Value.slice none 0 0] 25)).alloc (.map #[] 0)).cell? ⟨w.heap.size, 2, none⟩ = some (Value.bool cut) ∧ (((w.alloc (.cells #[Value.int .i64 now, Value.int .i64 delay, Value.bool cut, Value.int .i64 count, Value.slice lA ln lc, Value.slice bA bn bc] 25)).alloc (.cells #[Value.int .i64 0, Value.int .i64 0, Value.bool false, Value.int .i64 0, Value.slice none 0 0, Value.slice none 0 0] 25)).alloc (.map #[] 0)).cell? ⟨w.heap.size, 3, none⟩ = some (Value.int .i64 count) ∧ (((w.alloc (.cells #[Value.int .i64 now, Value.int .i64 delay, Value.bool cut, Value.int .i64 count, Value.slice lA ln lc, Value.slice bA bn bc] 25)).alloc (.cells #[Value.int .i64 0, Value.int .i64 0, Value.bool false, Value.int .i64 0, Value.slice none 0 0, Value.slice none 0 0] 25)).alloc (.map #[] 0)).cell? ⟨w.heap.size, 4, none⟩ = some (Value.slice lA ln lc) ∧ (((w.alloc (.cells #[Value.int .i64 now, Value.int .i64 delay, Value.bool cut, Value.int .i64 count, Value.slice lA ln lc, Value.slice bA bn bc] 25)).alloc (.cells #[Value.int .i64 0, Value.int .i64 0, Value.bool false, Value.int .i64 0, Value.slice none 0 0, Value.slice none 0 0] 25)).alloc (.map #[] 0)).cell? ⟨w.heap.size, 5, none⟩ = some (Value.slice bA bn bc) from ⟨hX1.out.cell 0, hX1.out.cell 1, hX1.out.cell 2, hX1.out.cell 3, hX1.out.cell 4, hX1.out.cell 5⟩)
  go_enter Try.func13, Try.ntmps13
  go_wp2_with fail
  clear k0 k1 k2 k3 k4 k5 j0 j1 j2 j3 j4 j5 hX0 hZ0 hb0 hmm
  generalize (((w.alloc (.cells #[Value.int .i64 now, Value.int .i64 delay, Value.bool cut, Value.int .i64 count, Value.slice lA ln lc, Value.slice bA bn bc] 25)).alloc (.cells #[Value.int .i64 0, Value.int .i64 0, Value.bool false, Value.int .i64 0, Value.slice none 0 0, Value.slice none 0 0] 25)).alloc (.map #[] 0)) = w1 at *
  go_loopw [24] (fun i wr => ∃ (k : Nat) (D : DataW Unit), k ≤ ln ∧ i = .int .i64 k ∧ Hid (wr.ownsMap Try.prog 3 (plainElem (H := Unit) Try.prog 4) (w.heap.size + 1 + 1) k D) ∧ Hid (Maps.IsMap D) ∧ Hid (∀ x, D.atKey (.int .i64 x) (.lit (.bool false)) = .lit (.bool ((lose.take k).contains x))) ∧ Hid (Blk wr w.heap.size 25 #[Value.int .i64 now, Value.int .i64 delay, Value.bool cut, Value.int .i64 count, Value.slice lA ln lc, Value.slice bA bn bc]) ∧ Hid (Blk wr (w.heap.size + 1) 25 #[Value.int .i64 0, Value.int .i64 0, Value.bool false, Value.int .i64 0, Value.slice none 0 0, Value.slice none 0 0]) ∧ Hid (Below w.heap.size w wr)) (fun i _ => ln - (intOf i).toNat)
  case atStart => exact ⟨0, .map [], Nat.zero_le _, rfl, hM1.out, Maps.isMap_empty, fun x => rfl, hX1.out, hZ1.out, hb1.out⟩
  case round =>
    obtain ⟨k, D, hkn, rfl, hM, hD, hAt, hX, hZ, hb⟩ := hrel
    obtain ⟨k0, k1, k2, k3, k4, k5⟩ := (show wr.cell? ⟨w.heap.size, 0, none⟩ = some (Value.int .i64 now) ∧ wr.cell? ⟨w.heap.size, 1, none⟩ = some (Value.int .i64 delay) ∧ wr.cell? ⟨w.heap.size, 2, none⟩ = some (Value.bool cut) ∧ wr.cell? ⟨w.heap.size, 3, none⟩ = some (Value.int .i64 count) ∧ wr.cell? ⟨w.heap.size, 4, none⟩ = some (Value.slice lA ln lc) ∧ wr.cell? ⟨w.heap.size, 5, none⟩ = some (Value.slice bA bn bc) from ⟨hX.out.cell 0, hX.out.cell 1, hX.out.cell 2, hX.out.cell 3, hX.out.cell 4, hX.out.cell 5⟩)
    by_cases hlt : k < ln
    · have hkl : k < lose.length := by have := hln.out; omega
      have hk0 : (0 : Int) ≤ k := by omega
      have hk1 : (k : Int) < ln := by omega
      obtain ⟨ad, hA, hbl, x0⟩ := i_cell (h.out.la.below hb.out (Nat.le_refl _)) hlt
      (try simp only at hA x0)
      have hst : Hid (∀ c, (lose.take (k + 1)).contains c = ((lose.take k).contains c || (lose[k] == c))) := fun c => by rw [List.take_succ_eq_append_getElem hkl]; exact contains_snoc _ _ _
      have hxi := wf_of_i64 (h.out.li _ (List.getElem_mem hkl))
      generalize lose[k] = x at *
      have hkey : keyOf Try.prog 3 (.int .i64 x) = some (.int .i64 x) := Maps.keyOf_int_mk Try.underlying3 hxi
      subst hA
      go_wp2_with (at_mapUpdate; refine wpList_mapUpdate_own _ rfl _ _ _ 60 rfl 3 4 (Maps.int_keyed Try.underlying3) Try.underlying60 (plainElem (H := Unit) Try.prog 4) (w.heap.size + 1 + 1) k D rfl hM.out (by unfold maxLen; omega) _ _ (.int .i64 x) rfl rfl hkey _ [] (plainElem_bool Try.underlying4 true) ?_; intro w5 hown1 hg1)
      have hM5 := Lib.hid hown1
      have hX5 := Lib.hid (hX.out.grown hg1 (by intro e; injection e; omega))
      have hZ5 := Lib.hid (hZ.out.grown hg1 (by intro e; injection e; omega))
      have hb5 : Hid (Below w.heap.size w w5) := hb.out.grown hg1 hb.out.size (fun g8 e8 => by injection e8 with e8; omega)
      clear hown1 hg1
      go_wp2_with fail
      go_roundw
      case rel =>
        refine ⟨k + 1, _, by omega, by go_num, hM5.out, hD.out.put _ _, ?_, hX5.out, hZ5.out, hb5.out⟩
        intro c
        rw [hst.out c]
        by_cases hc : x = c
        · subst hc
          rw [Maps.atKey_put_same hD.out (show WideAt.IsKeyLit (.int .i64 x) from trivial)]
          simp
        · rw [Maps.atKey_put_other (by intro e; injection e with _ e; exact hc e.symm), hAt.out c]
          simp [hc]
      case measure => simp [intOf]; omega
    · have hlc : Hid (D.atKey (.int .i64 count) (.lit (.bool false)) = .lit (.bool (lose.contains count))) := by
        have := hAt.out count
        rwa [List.take_of_length_le (by have := hln.out; omega)] at this
      have hlk := lookup_bool hM.out count (wf_of_i64 h.out.ii.2.2) _ hlc.out
      have hlv : Hid (lostL ⟨now, delay, cut, count, lose, box.map Pk.val⟩ = (cut || lose.contains count)) := rfl
      generalize hlb_ : lose.contains count = lb at *
      replace hlb_ := Lib.hid hlb_
      clear hlc hAt hD
      have hsc := Lib.hid (fun w2 (hb : Below w.heap.size w w2) => copied_any ⟨now, delay, cut, count, lA, ln, lc, lose, bA, bn, bc, box⟩ w2 (h.out.more hb) hs0.out)
      cases hct : cut with
      | true =>
        subst hct
        have hF := Lib.hid (send_lost ⟨now, delay, true, count, lose, box.map Pk.val⟩ d hno.out (by rw [hlv.out]; rfl))
        replace hlv := Lib.hid hlv
        go_wp2_with fail
        refine (copied_any ⟨now, delay, true, count, lA, ln, lc, lose, bA, bn, bc, box⟩ wr (h.out.more hb.out) hs0.out).mono ?_; rintro e w3 ⟨l', rfl, hok, hv, hf, hrow, hsep, hb3⟩
        obtain ⟨now2, delay2, cut2, count2, lA2, ln2, lc2, lose2, bA2, bn2, bc2, box2⟩ := l'
        simp only [Lk.val, Lv.mk.injEq] at hv
        obtain ⟨e0, e1, e2, e3, e4, e5⟩ := hv
        obtain rfl := e0.symm
        obtain rfl := e1.symm
        obtain rfl := e2
        obtain rfl := e3.symm
        obtain rfl := e4.symm
        have hbx := Lib.hid e5
        clear e0 e1 e3 e4 e5
        simp only [lkV] at *
        have hg10 : Hid (w.heap.size + 1 < w3.heap.size) := Nat.lt_of_lt_of_le hZ.out.lt hb3.size
        have hbn2 : Hid (box2.length = bn2) := hok.ba.len
        have hbl2 : Hid (box2.length = box.length) := by show _ = _; have := congrArg List.length hbx.out; simpa using this
        have hlt3 : Hid (LkLt w3.heap.size ⟨now, delay, true, count, lA2, ln2, lc2, lose, bA2, bn2, bc2, box2⟩) := LkOk_lt hok
        have hfN : Hid (LkFr (w.heap.size + 1 + 1) ⟨now, delay, true, count, lA2, ln2, lc2, lose, bA2, bn2, bc2, box2⟩) := hf.mono (Nat.succ_le_of_lt hZ.out.lt)
        have hlb := Lib.hid hok.lb
        have hbb2 := Lib.hid hok.bb
        have hok6 : Hid (LkOk (w3.alloc (.cells #[Value.int .i64 now, Value.int .i64 delay, Value.bool true, Value.int .i64 (count + 1), Value.slice lA2 ln2 lc2, Value.slice bA2 bn2 bc2] 25)) ⟨now, delay, true, count, lA2, ln2, lc2, lose, bA2, bn2, bc2, box2⟩) := hok.more (a1 w3 _)
        have hX6 := Lib.hid ((hX.out.below hb3 hX.out.lt).alloc (.cells #[Value.int .i64 now, Value.int .i64 delay, Value.bool true, Value.int .i64 (count + 1), Value.slice lA2 ln2 lc2, Value.slice bA2 bn2 bc2] 25))
        have hZ6 := Lib.hid ((hZ.out.below hb3 hZ.out.lt).alloc (.cells #[Value.int .i64 now, Value.int .i64 delay, Value.bool true, Value.int .i64 (count + 1), Value.slice lA2 ln2 lc2, Value.slice bA2 bn2 bc2] 25))
        have hT6 := Lib.hid (Blk.new w3 25 #[Value.int .i64 now, Value.int .i64 delay, Value.bool true, Value.int .i64 (count + 1), Value.slice lA2 ln2 lc2, Value.slice bA2 bn2 bc2])
        have hT5 := Lib.hid (Blk.new w3 25 #[Value.int .i64 now, Value.int .i64 delay, Value.bool true, Value.int .i64 count, Value.slice lA2 ln2 lc2, Value.slice bA2 bn2 bc2])
        have hb6 : Hid (Below w.heap.size w (w3.alloc (.cells #[Value.int .i64 now, Value.int .i64 delay, Value.bool true, Value.int .i64 (count + 1), Value.slice lA2 ln2 lc2, Value.slice bA2 bn2 bc2] 25))) := (hb.out.trans (hb3.mono hb.out.size)).alloc (hb.out.trans (hb3.mono hb.out.size)).size _
        have hb6s : Hid (w.heap.size ≤ (w3.alloc (.cells #[Value.int .i64 now, Value.int .i64 delay, Value.bool true, Value.int .i64 (count + 1), Value.slice lA2 ln2 lc2, Value.slice bA2 bn2 bc2] 25)).heap.size) := hb6.out.size
        have hrow6 : Hid (LOwn pkC 2 29 (w3.alloc (.cells #[Value.int .i64 now, Value.int .i64 delay, Value.bool true, Value.int .i64 (count + 1), Value.slice lA2 ln2 lc2, Value.slice bA2 bn2 bc2] 25)) w.heap.size (.slice bA2 bn2 bc2) box2) := (hrow.mono hb.out.size).alloc _
        have hsepL : Hid (∀ ad, lA2 = some ad → some ad.block ≠ (Value.slice bA2 bn2 bc2).ownBlock) := fun ad e e2 => by
          cases bA2 with
          | none => cases e2
          | some a2 => injection e2 with e2; exact hsep.1 ad a2 e rfl e2
        have hsepP : Hid (∀ p ∈ box2, 0 < p.n → ∀ ad, p.A = some ad → some ad.block ≠ (Value.slice bA2 bn2 bc2).ownBlock) := fun p hp h0 ad e e2 => by
          cases bA2 with
          | none => cases e2
          | some a2 => injection e2 with e2; exact hsep.2 p hp h0 ad e a2 rfl e2
        have hvO : Hid (∀ g, (Value.slice bA2 bn2 bc2).ownBlock = some g → g < (w3.alloc (.cells #[Value.int .i64 now, Value.int .i64 delay, Value.bool true, Value.int .i64 (count + 1), Value.slice lA2 ln2 lc2, Value.slice bA2 bn2 bc2] 25)).heap.size) := fun g e => (World.ownsRow.lt hrow6.out.2 g e).2
        clear hok hf hrow hsep hb3
        obtain ⟨m0, m1, m2, m3, m4, m5, n0, n1, n2, n3, n4, n5⟩ := (show (w3.alloc (.cells #[Value.int .i64 now, Value.int .i64 delay, Value.bool true, Value.int .i64 count, Value.slice lA2 ln2 lc2, Value.slice bA2 bn2 bc2] 25)).cell? ⟨w3.heap.size, 0, none⟩ = some (Value.int .i64 now) ∧ (w3.alloc (.cells #[Value.int .i64 now, Value.int .i64 delay, Value.bool true, Value.int .i64 count, Value.slice lA2 ln2 lc2, Value.slice bA2 bn2 bc2] 25)).cell? ⟨w3.heap.size, 1, none⟩ = some (Value.int .i64 delay) ∧ (w3.alloc (.cells #[Value.int .i64 now, Value.int .i64 delay, Value.bool true, Value.int .i64 count, Value.slice lA2 ln2 lc2, Value.slice bA2 bn2 bc2] 25)).cell? ⟨w3.heap.size, 2, none⟩ = some (Value.bool true) ∧ (w3.alloc (.cells #[Value.int .i64 now, Value.int .i64 delay, Value.bool true, Value.int .i64 count, Value.slice lA2 ln2 lc2, Value.slice bA2 bn2 bc2] 25)).cell? ⟨w3.heap.size, 3, none⟩ = some (Value.int .i64 count) ∧ (w3.alloc (.cells #[Value.int .i64 now, Value.int .i64 delay, Value.bool true, Value.int .i64 count, Value.slice lA2 ln2 lc2, Value.slice bA2 bn2 bc2] 25)).cell? ⟨w3.heap.size, 4, none⟩ = some (Value.slice lA2 ln2 lc2) ∧ (w3.alloc (.cells #[Value.int .i64 now, Value.int .i64 delay, Value.bool true, Value.int .i64 count, Value.slice lA2 ln2 lc2, Value.slice bA2 bn2 bc2] 25)).cell? ⟨w3.heap.size, 5, none⟩ = some (Value.slice bA2 bn2 bc2) ∧ (w3.alloc (.cells #[Value.int .i64 now, Value.int .i64 delay, Value.bool true, Value.int .i64 count, Value.slice lA2 ln2 lc2, Value.slice bA2 bn2 bc2] 25)).frozen? ⟨w3.heap.size, 0, none⟩ = false ∧ (w3.alloc (.cells #[Value.int .i64 now, Value.int .i64 delay, Value.bool true, Value.int .i64 count, Value.slice lA2 ln2 lc2, Value.slice bA2 bn2 bc2] 25)).frozen? ⟨w3.heap.size, 1, none⟩ = false ∧ (w3.alloc (.cells #[Value.int .i64 now, Value.int .i64 delay, Value.bool true, Value.int .i64 count, Value.slice lA2 ln2 lc2, Value.slice bA2 bn2 bc2] 25)).frozen? ⟨w3.heap.size, 2, none⟩ = false ∧ (w3.alloc (.cells #[Value.int .i64 now, Value.int .i64 delay, Value.bool true, Value.int .i64 count, Value.slice lA2 ln2 lc2, Value.slice bA2 bn2 bc2] 25)).frozen? ⟨w3.heap.size, 3, none⟩ = false ∧ (w3.alloc (.cells #[Value.int .i64 now, Value.int .i64 delay, Value.bool true, Value.int .i64 count, Value.slice lA2 ln2 lc2, Value.slice bA2 bn2 bc2] 25)).frozen? ⟨w3.heap.size, 4, none⟩ = false ∧ (w3.alloc (.cells #[Value.int .i64 now, Value.int .i64 delay, Value.bool true, Value.int .i64 count, Value.slice lA2 ln2 lc2, Value.slice bA2 bn2 bc2] 25)).frozen? ⟨w3.heap.size, 5, none⟩ = false from ⟨hT5.out.cell 0, hT5.out.cell 1, hT5.out.cell 2, hT5.out.cell 3, hT5.out.cell 4, hT5.out.cell 5, hT5.out.frozen 0, hT5.out.frozen 1, hT5.out.frozen 2, hT5.out.frozen 3, hT5.out.frozen 4, hT5.out.frozen 5⟩)
        have hZs := hZ6
        have hbs := hb6
        obtain ⟨k0, k1, k2, k3, k4, k5⟩ := (show (w3.alloc (.cells #[Value.int .i64 now, Value.int .i64 delay, Value.bool true, Value.int .i64 (count + 1), Value.slice lA2 ln2 lc2, Value.slice bA2 bn2 bc2] 25)).cell? ⟨w3.heap.size, 0, none⟩ = some (Value.int .i64 now) ∧ (w3.alloc (.cells #[Value.int .i64 now, Value.int .i64 delay, Value.bool true, Value.int .i64 (count + 1), Value.slice lA2 ln2 lc2, Value.slice bA2 bn2 bc2] 25)).cell? ⟨w3.heap.size, 1, none⟩ = some (Value.int .i64 delay) ∧ (w3.alloc (.cells #[Value.int .i64 now, Value.int .i64 delay, Value.bool true, Value.int .i64 (count + 1), Value.slice lA2 ln2 lc2, Value.slice bA2 bn2 bc2] 25)).cell? ⟨w3.heap.size, 2, none⟩ = some (Value.bool true) ∧ (w3.alloc (.cells #[Value.int .i64 now, Value.int .i64 delay, Value.bool true, Value.int .i64 (count + 1), Value.slice lA2 ln2 lc2, Value.slice bA2 bn2 bc2] 25)).cell? ⟨w3.heap.size, 3, none⟩ = some (Value.int .i64 (count + 1)) ∧ (w3.alloc (.cells #[Value.int .i64 now, Value.int .i64 delay, Value.bool true, Value.int .i64 (count + 1), Value.slice lA2 ln2 lc2, Value.slice bA2 bn2 bc2] 25)).cell? ⟨w3.heap.size, 4, none⟩ = some (Value.slice lA2 ln2 lc2) ∧ (w3.alloc (.cells #[Value.int .i64 now, Value.int .i64 delay, Value.bool true, Value.int .i64 (count + 1), Value.slice lA2 ln2 lc2, Value.slice bA2 bn2 bc2] 25)).cell? ⟨w3.heap.size, 5, none⟩ = some (Value.slice bA2 bn2 bc2) from ⟨hT6.out.cell 0, hT6.out.cell 1, hT6.out.cell 2, hT6.out.cell 3, hT6.out.cell 4, hT6.out.cell 5⟩)
        obtain ⟨u0, u1, u2, u3, u4, u5, z0, z1, z2, z3, z4, z5⟩ := (show (w3.alloc (.cells #[Value.int .i64 now, Value.int .i64 delay, Value.bool true, Value.int .i64 (count + 1), Value.slice lA2 ln2 lc2, Value.slice bA2 bn2 bc2] 25)).cell? ⟨(w.heap.size + 1), 0, none⟩ = some (Value.int .i64 0) ∧ (w3.alloc (.cells #[Value.int .i64 now, Value.int .i64 delay, Value.bool true, Value.int .i64 (count + 1), Value.slice lA2 ln2 lc2, Value.slice bA2 bn2 bc2] 25)).cell? ⟨(w.heap.size + 1), 1, none⟩ = some (Value.int .i64 0) ∧ (w3.alloc (.cells #[Value.int .i64 now, Value.int .i64 delay, Value.bool true, Value.int .i64 (count + 1), Value.slice lA2 ln2 lc2, Value.slice bA2 bn2 bc2] 25)).cell? ⟨(w.heap.size + 1), 2, none⟩ = some (Value.bool false) ∧ (w3.alloc (.cells #[Value.int .i64 now, Value.int .i64 delay, Value.bool true, Value.int .i64 (count + 1), Value.slice lA2 ln2 lc2, Value.slice bA2 bn2 bc2] 25)).cell? ⟨(w.heap.size + 1), 3, none⟩ = some (Value.int .i64 0) ∧ (w3.alloc (.cells #[Value.int .i64 now, Value.int .i64 delay, Value.bool true, Value.int .i64 (count + 1), Value.slice lA2 ln2 lc2, Value.slice bA2 bn2 bc2] 25)).cell? ⟨(w.heap.size + 1), 4, none⟩ = some (Value.slice none 0 0) ∧ (w3.alloc (.cells #[Value.int .i64 now, Value.int .i64 delay, Value.bool true, Value.int .i64 (count + 1), Value.slice lA2 ln2 lc2, Value.slice bA2 bn2 bc2] 25)).cell? ⟨(w.heap.size + 1), 5, none⟩ = some (Value.slice none 0 0) ∧ (w3.alloc (.cells #[Value.int .i64 now, Value.int .i64 delay, Value.bool true, Value.int .i64 (count + 1), Value.slice lA2 ln2 lc2, Value.slice bA2 bn2 bc2] 25)).frozen? ⟨(w.heap.size + 1), 0, none⟩ = false ∧ (w3.alloc (.cells #[Value.int .i64 now, Value.int .i64 delay, Value.bool true, Value.int .i64 (count + 1), Value.slice lA2 ln2 lc2, Value.slice bA2 bn2 bc2] 25)).frozen? ⟨(w.heap.size + 1), 1, none⟩ = false ∧ (w3.alloc (.cells #[Value.int .i64 now, Value.int .i64 delay, Value.bool true, Value.int .i64 (count + 1), Value.slice lA2 ln2 lc2, Value.slice bA2 bn2 bc2] 25)).frozen? ⟨(w.heap.size + 1), 2, none⟩ = false ∧ (w3.alloc (.cells #[Value.int .i64 now, Value.int .i64 delay, Value.bool true, Value.int .i64 (count + 1), Value.slice lA2 ln2 lc2, Value.slice bA2 bn2 bc2] 25)).frozen? ⟨(w.heap.size + 1), 3, none⟩ = false ∧ (w3.alloc (.cells #[Value.int .i64 now, Value.int .i64 delay, Value.bool true, Value.int .i64 (count + 1), Value.slice lA2 ln2 lc2, Value.slice bA2 bn2 bc2] 25)).frozen? ⟨(w.heap.size + 1), 4, none⟩ = false ∧ (w3.alloc (.cells #[Value.int .i64 now, Value.int .i64 delay, Value.bool true, Value.int .i64 (count + 1), Value.slice lA2 ln2 lc2, Value.slice bA2 bn2 bc2] 25)).frozen? ⟨(w.heap.size + 1), 5, none⟩ = false from ⟨hZ6.out.cell 0, hZ6.out.cell 1, hZ6.out.cell 2, hZ6.out.cell 3, hZ6.out.cell 4, hZ6.out.cell 5, hZ6.out.frozen 0, hZ6.out.frozen 1, hZ6.out.frozen 2, hZ6.out.frozen 3, hZ6.out.frozen 4, hZ6.out.frozen 5⟩)
        go_wp2_with fail
        clear m0 m1 m2 m3 m4 m5 n0 n1 n2 n3 n4 n5 k0 k1 k2 k3 k4 k5 u0 u1 u2 u3 u4 u5 z0 z1 z2 z3 z4 z5 hX6 hZ6 hT6 hT5 hb6 hrow6 hvO hb6s
        generalize w3.alloc (.cells #[Value.int .i64 now, Value.int .i64 delay, Value.bool true, Value.int .i64 (count + 1), Value.slice lA2 ln2 lc2, Value.slice bA2 bn2 bc2] 25) = ws at *
        (try simp only [Exit.inBlock, Exit.then])
        have hB := lk_set6 hZs.out (Value.int .i64 now) (Value.int .i64 delay) (Value.bool true) (Value.int .i64 (count + 1)) (Value.slice lA2 ln2 lc2) (Value.slice bA2 bn2 bc2)
        have hbF := below_set6 hbs.out (Nat.le_succ _) (Value.int .i64 now) (Value.int .i64 delay) (Value.bool true) (Value.int .i64 (count + 1)) (Value.slice lA2 ln2 lc2) (Value.slice bA2 bn2 bc2)
        have hgF := grown_set6 (ws) (w.heap.size + 1) (Value.int .i64 now) (Value.int .i64 delay) (Value.bool true) (Value.int .i64 (count + 1)) (Value.slice lA2 ln2 lc2) (Value.slice bA2 bn2 bc2)
        refine bodyPost_ret (v := .tuple #[.agg #[Value.int .i64 now, Value.int .i64 delay, Value.bool true, Value.int .i64 (count + 1), Value.slice lA2 ln2 lc2, Value.slice bA2 bn2 bc2], .int .i64 0]) ?_ rfl ?_
        · refine (res2 (fn := Try.f13) (p := 4) (u := 5) (ty := 25) rfl _ _ (w.heap.size + 1) 25 _ (0, 0) _ ?_ hB Try.underlying25 rfl (by kernel_rfl)).trans ?_
          · rfl
          · rfl
        clear hB
        generalize (((((((ws).setCell ⟨(w.heap.size + 1), 0, none⟩ (Value.int .i64 now)).setCell ⟨(w.heap.size + 1), 1, none⟩ (Value.int .i64 delay)).setCell ⟨(w.heap.size + 1), 2, none⟩ (Value.bool true)).setCell ⟨(w.heap.size + 1), 3, none⟩ (Value.int .i64 (count + 1))).setCell ⟨(w.heap.size + 1), 4, none⟩ (Value.slice lA2 ln2 lc2)).setCell ⟨(w.heap.size + 1), 5, none⟩ (Value.slice bA2 bn2 bc2)) = wF at *
        have hk := LkOk_grown hok6.out hfN.out hgF
        refine ⟨⟨⟨now, delay, true, count + 1, lA2, ln2, lc2, lose, bA2, bn2, bc2, box2⟩, by rw [hF.out]; try rfl, ⟨hk.la, hk.lb, hk.li, hk.ba, hk.bb, hk.bd, ⟨hk.ii.1, hk.ii.2.1, by simp only [i64In]; omega⟩⟩, by rw [hF.out]; simp only [Lk.val, hbx.out], fun _ => ?_, LkFr.k ?_⟩, hbF⟩
        · have := hfN.out.mono (show w.heap.size ≤ w.heap.size + 1 + 1 by omega)
          exact ⟨this.1, this.2.1, this.2.2⟩
        · have := hfN.out.mono (show w.heap.size ≤ w.heap.size + 1 + 1 by omega)
          exact ⟨this.1, this.2.1, this.2.2⟩
      | false =>
        subst hct
        cases hlb2 : lb with
        | true =>
          subst hlb2
          have hF := Lib.hid (send_lost ⟨now, delay, false, count, lose, box.map Pk.val⟩ d hno.out (by rw [hlv.out]; rfl))
          replace hlv := Lib.hid hlv
          go_wp2_with fail
          refine (copied_any ⟨now, delay, false, count, lA, ln, lc, lose, bA, bn, bc, box⟩ wr (h.out.more hb.out) hs0.out).mono ?_; rintro e w3 ⟨l', rfl, hok, hv, hf, hrow, hsep, hb3⟩
          obtain ⟨now2, delay2, cut2, count2, lA2, ln2, lc2, lose2, bA2, bn2, bc2, box2⟩ := l'
          simp only [Lk.val, Lv.mk.injEq] at hv
          obtain ⟨e0, e1, e2, e3, e4, e5⟩ := hv
          obtain rfl := e0.symm
          obtain rfl := e1.symm
          obtain rfl := e2
          obtain rfl := e3.symm
          obtain rfl := e4.symm
          have hbx := Lib.hid e5
          clear e0 e1 e3 e4 e5
          simp only [lkV] at *
          have hg10 : Hid (w.heap.size + 1 < w3.heap.size) := Nat.lt_of_lt_of_le hZ.out.lt hb3.size
          have hbn2 : Hid (box2.length = bn2) := hok.ba.len
          have hbl2 : Hid (box2.length = box.length) := by show _ = _; have := congrArg List.length hbx.out; simpa using this
          have hlt3 : Hid (LkLt w3.heap.size ⟨now, delay, false, count, lA2, ln2, lc2, lose, bA2, bn2, bc2, box2⟩) := LkOk_lt hok
          have hfN : Hid (LkFr (w.heap.size + 1 + 1) ⟨now, delay, false, count, lA2, ln2, lc2, lose, bA2, bn2, bc2, box2⟩) := hf.mono (Nat.succ_le_of_lt hZ.out.lt)
          have hlb := Lib.hid hok.lb
          have hbb2 := Lib.hid hok.bb
          have hok6 : Hid (LkOk (w3.alloc (.cells #[Value.int .i64 now, Value.int .i64 delay, Value.bool false, Value.int .i64 (count + 1), Value.slice lA2 ln2 lc2, Value.slice bA2 bn2 bc2] 25)) ⟨now, delay, false, count, lA2, ln2, lc2, lose, bA2, bn2, bc2, box2⟩) := hok.more (a1 w3 _)
          have hX6 := Lib.hid ((hX.out.below hb3 hX.out.lt).alloc (.cells #[Value.int .i64 now, Value.int .i64 delay, Value.bool false, Value.int .i64 (count + 1), Value.slice lA2 ln2 lc2, Value.slice bA2 bn2 bc2] 25))
          have hZ6 := Lib.hid ((hZ.out.below hb3 hZ.out.lt).alloc (.cells #[Value.int .i64 now, Value.int .i64 delay, Value.bool false, Value.int .i64 (count + 1), Value.slice lA2 ln2 lc2, Value.slice bA2 bn2 bc2] 25))
          have hT6 := Lib.hid (Blk.new w3 25 #[Value.int .i64 now, Value.int .i64 delay, Value.bool false, Value.int .i64 (count + 1), Value.slice lA2 ln2 lc2, Value.slice bA2 bn2 bc2])
          have hT5 := Lib.hid (Blk.new w3 25 #[Value.int .i64 now, Value.int .i64 delay, Value.bool false, Value.int .i64 count, Value.slice lA2 ln2 lc2, Value.slice bA2 bn2 bc2])
          have hb6 : Hid (Below w.heap.size w (w3.alloc (.cells #[Value.int .i64 now, Value.int .i64 delay, Value.bool false, Value.int .i64 (count + 1), Value.slice lA2 ln2 lc2, Value.slice bA2 bn2 bc2] 25))) := (hb.out.trans (hb3.mono hb.out.size)).alloc (hb.out.trans (hb3.mono hb.out.size)).size _
          have hb6s : Hid (w.heap.size ≤ (w3.alloc (.cells #[Value.int .i64 now, Value.int .i64 delay, Value.bool false, Value.int .i64 (count + 1), Value.slice lA2 ln2 lc2, Value.slice bA2 bn2 bc2] 25)).heap.size) := hb6.out.size
          have hrow6 : Hid (LOwn pkC 2 29 (w3.alloc (.cells #[Value.int .i64 now, Value.int .i64 delay, Value.bool false, Value.int .i64 (count + 1), Value.slice lA2 ln2 lc2, Value.slice bA2 bn2 bc2] 25)) w.heap.size (.slice bA2 bn2 bc2) box2) := (hrow.mono hb.out.size).alloc _
          have hsepL : Hid (∀ ad, lA2 = some ad → some ad.block ≠ (Value.slice bA2 bn2 bc2).ownBlock) := fun ad e e2 => by
            cases bA2 with
            | none => cases e2
            | some a2 => injection e2 with e2; exact hsep.1 ad a2 e rfl e2
          have hsepP : Hid (∀ p ∈ box2, 0 < p.n → ∀ ad, p.A = some ad → some ad.block ≠ (Value.slice bA2 bn2 bc2).ownBlock) := fun p hp h0 ad e e2 => by
            cases bA2 with
            | none => cases e2
            | some a2 => injection e2 with e2; exact hsep.2 p hp h0 ad e a2 rfl e2
          have hvO : Hid (∀ g, (Value.slice bA2 bn2 bc2).ownBlock = some g → g < (w3.alloc (.cells #[Value.int .i64 now, Value.int .i64 delay, Value.bool false, Value.int .i64 (count + 1), Value.slice lA2 ln2 lc2, Value.slice bA2 bn2 bc2] 25)).heap.size) := fun g e => (World.ownsRow.lt hrow6.out.2 g e).2
          clear hok hf hrow hsep hb3
          obtain ⟨m0, m1, m2, m3, m4, m5, n0, n1, n2, n3, n4, n5⟩ := (show (w3.alloc (.cells #[Value.int .i64 now, Value.int .i64 delay, Value.bool false, Value.int .i64 count, Value.slice lA2 ln2 lc2, Value.slice bA2 bn2 bc2] 25)).cell? ⟨w3.heap.size, 0, none⟩ = some (Value.int .i64 now) ∧ (w3.alloc (.cells #[Value.int .i64 now, Value.int .i64 delay, Value.bool false, Value.int .i64 count, Value.slice lA2 ln2 lc2, Value.slice bA2 bn2 bc2] 25)).cell? ⟨w3.heap.size, 1, none⟩ = some (Value.int .i64 delay) ∧ (w3.alloc (.cells #[Value.int .i64 now, Value.int .i64 delay, Value.bool false, Value.int .i64 count, Value.slice lA2 ln2 lc2, Value.slice bA2 bn2 bc2] 25)).cell? ⟨w3.heap.size, 2, none⟩ = some (Value.bool false) ∧ (w3.alloc (.cells #[Value.int .i64 now, Value.int .i64 delay, Value.bool false, Value.int .i64 count, Value.slice lA2 ln2 lc2, Value.slice bA2 bn2 bc2] 25)).cell? ⟨w3.heap.size, 3, none⟩ = some (Value.int .i64 count) ∧ (w3.alloc (.cells #[Value.int .i64 now, Value.int .i64 delay, Value.bool false, Value.int .i64 count, Value.slice lA2 ln2 lc2, Value.slice bA2 bn2 bc2] 25)).cell? ⟨w3.heap.size, 4, none⟩ = some (Value.slice lA2 ln2 lc2) ∧ (w3.alloc (.cells #[Value.int .i64 now, Value.int .i64 delay, Value.bool false, Value.int .i64 count, Value.slice lA2 ln2 lc2, Value.slice bA2 bn2 bc2] 25)).cell? ⟨w3.heap.size, 5, none⟩ = some (Value.slice bA2 bn2 bc2) ∧ (w3.alloc (.cells #[Value.int .i64 now, Value.int .i64 delay, Value.bool false, Value.int .i64 count, Value.slice lA2 ln2 lc2, Value.slice bA2 bn2 bc2] 25)).frozen? ⟨w3.heap.size, 0, none⟩ = false ∧ (w3.alloc (.cells #[Value.int .i64 now, Value.int .i64 delay, Value.bool false, Value.int .i64 count, Value.slice lA2 ln2 lc2, Value.slice bA2 bn2 bc2] 25)).frozen? ⟨w3.heap.size, 1, none⟩ = false ∧ (w3.alloc (.cells #[Value.int .i64 now, Value.int .i64 delay, Value.bool false, Value.int .i64 count, Value.slice lA2 ln2 lc2, Value.slice bA2 bn2 bc2] 25)).frozen? ⟨w3.heap.size, 2, none⟩ = false ∧ (w3.alloc (.cells #[Value.int .i64 now, Value.int .i64 delay, Value.bool false, Value.int .i64 count, Value.slice lA2 ln2 lc2, Value.slice bA2 bn2 bc2] 25)).frozen? ⟨w3.heap.size, 3, none⟩ = false ∧ (w3.alloc (.cells #[Value.int .i64 now, Value.int .i64 delay, Value.bool false, Value.int .i64 count, Value.slice lA2 ln2 lc2, Value.slice bA2 bn2 bc2] 25)).frozen? ⟨w3.heap.size, 4, none⟩ = false ∧ (w3.alloc (.cells #[Value.int .i64 now, Value.int .i64 delay, Value.bool false, Value.int .i64 count, Value.slice lA2 ln2 lc2, Value.slice bA2 bn2 bc2] 25)).frozen? ⟨w3.heap.size, 5, none⟩ = false from ⟨hT5.out.cell 0, hT5.out.cell 1, hT5.out.cell 2, hT5.out.cell 3, hT5.out.cell 4, hT5.out.cell 5, hT5.out.frozen 0, hT5.out.frozen 1, hT5.out.frozen 2, hT5.out.frozen 3, hT5.out.frozen 4, hT5.out.frozen 5⟩)
          have hZs := hZ6
          have hbs := hb6
          obtain ⟨k0, k1, k2, k3, k4, k5⟩ := (show (w3.alloc (.cells #[Value.int .i64 now, Value.int .i64 delay, Value.bool false, Value.int .i64 (count + 1), Value.slice lA2 ln2 lc2, Value.slice bA2 bn2 bc2] 25)).cell? ⟨w3.heap.size, 0, none⟩ = some (Value.int .i64 now) ∧ (w3.alloc (.cells #[Value.int .i64 now, Value.int .i64 delay, Value.bool false, Value.int .i64 (count + 1), Value.slice lA2 ln2 lc2, Value.slice bA2 bn2 bc2] 25)).cell? ⟨w3.heap.size, 1, none⟩ = some (Value.int .i64 delay) ∧ (w3.alloc (.cells #[Value.int .i64 now, Value.int .i64 delay, Value.bool false, Value.int .i64 (count + 1), Value.slice lA2 ln2 lc2, Value.slice bA2 bn2 bc2] 25)).cell? ⟨w3.heap.size, 2, none⟩ = some (Value.bool false) ∧ (w3.alloc (.cells #[Value.int .i64 now, Value.int .i64 delay, Value.bool false, Value.int .i64 (count + 1), Value.slice lA2 ln2 lc2, Value.slice bA2 bn2 bc2] 25)).cell? ⟨w3.heap.size, 3, none⟩ = some (Value.int .i64 (count + 1)) ∧ (w3.alloc (.cells #[Value.int .i64 now, Value.int .i64 delay, Value.bool false, Value.int .i64 (count + 1), Value.slice lA2 ln2 lc2, Value.slice bA2 bn2 bc2] 25)).cell? ⟨w3.heap.size, 4, none⟩ = some (Value.slice lA2 ln2 lc2) ∧ (w3.alloc (.cells #[Value.int .i64 now, Value.int .i64 delay, Value.bool false, Value.int .i64 (count + 1), Value.slice lA2 ln2 lc2, Value.slice bA2 bn2 bc2] 25)).cell? ⟨w3.heap.size, 5, none⟩ = some (Value.slice bA2 bn2 bc2) from ⟨hT6.out.cell 0, hT6.out.cell 1, hT6.out.cell 2, hT6.out.cell 3, hT6.out.cell 4, hT6.out.cell 5⟩)
          obtain ⟨u0, u1, u2, u3, u4, u5, z0, z1, z2, z3, z4, z5⟩ := (show (w3.alloc (.cells #[Value.int .i64 now, Value.int .i64 delay, Value.bool false, Value.int .i64 (count + 1), Value.slice lA2 ln2 lc2, Value.slice bA2 bn2 bc2] 25)).cell? ⟨(w.heap.size + 1), 0, none⟩ = some (Value.int .i64 0) ∧ (w3.alloc (.cells #[Value.int .i64 now, Value.int .i64 delay, Value.bool false, Value.int .i64 (count + 1), Value.slice lA2 ln2 lc2, Value.slice bA2 bn2 bc2] 25)).cell? ⟨(w.heap.size + 1), 1, none⟩ = some (Value.int .i64 0) ∧ (w3.alloc (.cells #[Value.int .i64 now, Value.int .i64 delay, Value.bool false, Value.int .i64 (count + 1), Value.slice lA2 ln2 lc2, Value.slice bA2 bn2 bc2] 25)).cell? ⟨(w.heap.size + 1), 2, none⟩ = some (Value.bool false) ∧ (w3.alloc (.cells #[Value.int .i64 now, Value.int .i64 delay, Value.bool false, Value.int .i64 (count + 1), Value.slice lA2 ln2 lc2, Value.slice bA2 bn2 bc2] 25)).cell? ⟨(w.heap.size + 1), 3, none⟩ = some (Value.int .i64 0) ∧ (w3.alloc (.cells #[Value.int .i64 now, Value.int .i64 delay, Value.bool false, Value.int .i64 (count + 1), Value.slice lA2 ln2 lc2, Value.slice bA2 bn2 bc2] 25)).cell? ⟨(w.heap.size + 1), 4, none⟩ = some (Value.slice none 0 0) ∧ (w3.alloc (.cells #[Value.int .i64 now, Value.int .i64 delay, Value.bool false, Value.int .i64 (count + 1), Value.slice lA2 ln2 lc2, Value.slice bA2 bn2 bc2] 25)).cell? ⟨(w.heap.size + 1), 5, none⟩ = some (Value.slice none 0 0) ∧ (w3.alloc (.cells #[Value.int .i64 now, Value.int .i64 delay, Value.bool false, Value.int .i64 (count + 1), Value.slice lA2 ln2 lc2, Value.slice bA2 bn2 bc2] 25)).frozen? ⟨(w.heap.size + 1), 0, none⟩ = false ∧ (w3.alloc (.cells #[Value.int .i64 now, Value.int .i64 delay, Value.bool false, Value.int .i64 (count + 1), Value.slice lA2 ln2 lc2, Value.slice bA2 bn2 bc2] 25)).frozen? ⟨(w.heap.size + 1), 1, none⟩ = false ∧ (w3.alloc (.cells #[Value.int .i64 now, Value.int .i64 delay, Value.bool false, Value.int .i64 (count + 1), Value.slice lA2 ln2 lc2, Value.slice bA2 bn2 bc2] 25)).frozen? ⟨(w.heap.size + 1), 2, none⟩ = false ∧ (w3.alloc (.cells #[Value.int .i64 now, Value.int .i64 delay, Value.bool false, Value.int .i64 (count + 1), Value.slice lA2 ln2 lc2, Value.slice bA2 bn2 bc2] 25)).frozen? ⟨(w.heap.size + 1), 3, none⟩ = false ∧ (w3.alloc (.cells #[Value.int .i64 now, Value.int .i64 delay, Value.bool false, Value.int .i64 (count + 1), Value.slice lA2 ln2 lc2, Value.slice bA2 bn2 bc2] 25)).frozen? ⟨(w.heap.size + 1), 4, none⟩ = false ∧ (w3.alloc (.cells #[Value.int .i64 now, Value.int .i64 delay, Value.bool false, Value.int .i64 (count + 1), Value.slice lA2 ln2 lc2, Value.slice bA2 bn2 bc2] 25)).frozen? ⟨(w.heap.size + 1), 5, none⟩ = false from ⟨hZ6.out.cell 0, hZ6.out.cell 1, hZ6.out.cell 2, hZ6.out.cell 3, hZ6.out.cell 4, hZ6.out.cell 5, hZ6.out.frozen 0, hZ6.out.frozen 1, hZ6.out.frozen 2, hZ6.out.frozen 3, hZ6.out.frozen 4, hZ6.out.frozen 5⟩)
          go_wp2_with fail
          clear m0 m1 m2 m3 m4 m5 n0 n1 n2 n3 n4 n5 k0 k1 k2 k3 k4 k5 u0 u1 u2 u3 u4 u5 z0 z1 z2 z3 z4 z5 hX6 hZ6 hT6 hT5 hb6 hrow6 hvO hb6s
          generalize w3.alloc (.cells #[Value.int .i64 now, Value.int .i64 delay, Value.bool false, Value.int .i64 (count + 1), Value.slice lA2 ln2 lc2, Value.slice bA2 bn2 bc2] 25) = ws at *
          (try simp only [Exit.inBlock, Exit.then])
          have hB := lk_set6 hZs.out (Value.int .i64 now) (Value.int .i64 delay) (Value.bool false) (Value.int .i64 (count + 1)) (Value.slice lA2 ln2 lc2) (Value.slice bA2 bn2 bc2)
          have hbF := below_set6 hbs.out (Nat.le_succ _) (Value.int .i64 now) (Value.int .i64 delay) (Value.bool false) (Value.int .i64 (count + 1)) (Value.slice lA2 ln2 lc2) (Value.slice bA2 bn2 bc2)
          have hgF := grown_set6 (ws) (w.heap.size + 1) (Value.int .i64 now) (Value.int .i64 delay) (Value.bool false) (Value.int .i64 (count + 1)) (Value.slice lA2 ln2 lc2) (Value.slice bA2 bn2 bc2)
          refine bodyPost_ret (v := .tuple #[.agg #[Value.int .i64 now, Value.int .i64 delay, Value.bool false, Value.int .i64 (count + 1), Value.slice lA2 ln2 lc2, Value.slice bA2 bn2 bc2], .int .i64 0]) ?_ rfl ?_
          · refine (res2 (fn := Try.f13) (p := 4) (u := 5) (ty := 25) rfl _ _ (w.heap.size + 1) 25 _ (0, 0) _ ?_ hB Try.underlying25 rfl (by kernel_rfl)).trans ?_
            · rfl
            · rfl
          clear hB
          generalize (((((((ws).setCell ⟨(w.heap.size + 1), 0, none⟩ (Value.int .i64 now)).setCell ⟨(w.heap.size + 1), 1, none⟩ (Value.int .i64 delay)).setCell ⟨(w.heap.size + 1), 2, none⟩ (Value.bool false)).setCell ⟨(w.heap.size + 1), 3, none⟩ (Value.int .i64 (count + 1))).setCell ⟨(w.heap.size + 1), 4, none⟩ (Value.slice lA2 ln2 lc2)).setCell ⟨(w.heap.size + 1), 5, none⟩ (Value.slice bA2 bn2 bc2)) = wF at *
          have hk := LkOk_grown hok6.out hfN.out hgF
          refine ⟨⟨⟨now, delay, false, count + 1, lA2, ln2, lc2, lose, bA2, bn2, bc2, box2⟩, by rw [hF.out]; try rfl, ⟨hk.la, hk.lb, hk.li, hk.ba, hk.bb, hk.bd, ⟨hk.ii.1, hk.ii.2.1, by simp only [i64In]; omega⟩⟩, by rw [hF.out]; simp only [Lk.val, hbx.out], fun _ => ?_, LkFr.k ?_⟩, hbF⟩
          · have := hfN.out.mono (show w.heap.size ≤ w.heap.size + 1 + 1 by omega)
            exact ⟨this.1, this.2.1, this.2.2⟩
          · have := hfN.out.mono (show w.heap.size ≤ w.heap.size + 1 + 1 by omega)
            exact ⟨this.1, this.2.1, this.2.2⟩
        | false =>
          subst hlb2
          by_cases q3 : 256 ≤ bn
          · have q3i : (256 : Int) ≤ (bn : Int) := by omega
            have q3d : decide ((256 : Int) ≤ (bn : Int)) = true := by simp; omega
            have hF := Lib.hid (send_full ⟨now, delay, false, count, lose, box.map Pk.val⟩ d hno.out (by rw [hlv.out]; rfl) (by show 256 ≤ (box.map Pk.val).length; rw [List.length_map, hbn.out]; exact q3))
            replace hlv := Lib.hid hlv
            obtain ⟨u0, u1, u2, u3, u4, u5, z0, z1, z2, z3, z4, z5⟩ := (show wr.cell? ⟨(w.heap.size + 1), 0, none⟩ = some (Value.int .i64 0) ∧ wr.cell? ⟨(w.heap.size + 1), 1, none⟩ = some (Value.int .i64 0) ∧ wr.cell? ⟨(w.heap.size + 1), 2, none⟩ = some (Value.bool false) ∧ wr.cell? ⟨(w.heap.size + 1), 3, none⟩ = some (Value.int .i64 0) ∧ wr.cell? ⟨(w.heap.size + 1), 4, none⟩ = some (Value.slice none 0 0) ∧ wr.cell? ⟨(w.heap.size + 1), 5, none⟩ = some (Value.slice none 0 0) ∧ wr.frozen? ⟨(w.heap.size + 1), 0, none⟩ = false ∧ wr.frozen? ⟨(w.heap.size + 1), 1, none⟩ = false ∧ wr.frozen? ⟨(w.heap.size + 1), 2, none⟩ = false ∧ wr.frozen? ⟨(w.heap.size + 1), 3, none⟩ = false ∧ wr.frozen? ⟨(w.heap.size + 1), 4, none⟩ = false ∧ wr.frozen? ⟨(w.heap.size + 1), 5, none⟩ = false from ⟨hZ.out.cell 0, hZ.out.cell 1, hZ.out.cell 2, hZ.out.cell 3, hZ.out.cell 4, hZ.out.cell 5, hZ.out.frozen 0, hZ.out.frozen 1, hZ.out.frozen 2, hZ.out.frozen 3, hZ.out.frozen 4, hZ.out.frozen 5⟩)
            go_wp2_with fail
            clear k0 k1 k2 k3 k4 k5 u0 u1 u2 u3 u4 u5 z0 z1 z2 z3 z4 z5
            (try simp only [Exit.inBlock, Exit.then])
            have hB := lk_set6 hZ.out (Value.int .i64 now) (Value.int .i64 delay) (Value.bool false) (Value.int .i64 count) (Value.slice lA ln lc) (Value.slice bA bn bc)
            have hbF := below_set6 hb.out (Nat.le_succ _) (Value.int .i64 now) (Value.int .i64 delay) (Value.bool false) (Value.int .i64 count) (Value.slice lA ln lc) (Value.slice bA bn bc)
            have hgF := grown_set6 (wr) (w.heap.size + 1) (Value.int .i64 now) (Value.int .i64 delay) (Value.bool false) (Value.int .i64 count) (Value.slice lA ln lc) (Value.slice bA bn bc)
            refine bodyPost_ret (v := .tuple #[.agg #[Value.int .i64 now, Value.int .i64 delay, Value.bool false, Value.int .i64 count, Value.slice lA ln lc, Value.slice bA bn bc], .int .i64 3]) ?_ rfl ?_
            · refine (res2 (fn := Try.f13) (p := 4) (u := 5) (ty := 25) rfl _ _ (w.heap.size + 1) 25 _ (0, 0) _ ?_ hB Try.underlying25 rfl (by kernel_rfl)).trans ?_
              · rfl
              · rfl
            clear hB
            generalize (((((((wr).setCell ⟨(w.heap.size + 1), 0, none⟩ (Value.int .i64 now)).setCell ⟨(w.heap.size + 1), 1, none⟩ (Value.int .i64 delay)).setCell ⟨(w.heap.size + 1), 2, none⟩ (Value.bool false)).setCell ⟨(w.heap.size + 1), 3, none⟩ (Value.int .i64 count)).setCell ⟨(w.heap.size + 1), 4, none⟩ (Value.slice lA ln lc)).setCell ⟨(w.heap.size + 1), 5, none⟩ (Value.slice bA bn bc)) = wF at *
            exact ⟨⟨⟨now, delay, false, count, lA, ln, lc, lose, bA, bn, bc, box⟩, by rw [hF.out]; try rfl, h.out.more hbF, by rw [hF.out]; try rfl, by rw [hF.out]; intro h8; exact absurd h8 (by simp), fun Q hQ _ => hQ⟩, hbF⟩
          · have q3i : ¬ (256 : Int) ≤ (bn : Int) := by omega
            have q3d : decide ((256 : Int) ≤ (bn : Int)) = false := by simp; omega
            have hF := Lib.hid (send_go ⟨now, delay, false, count, lose, box.map Pk.val⟩ d hno.out (by rw [hlv.out]; rfl) (by show ¬ 256 ≤ (box.map Pk.val).length; rw [List.length_map, hbn.out]; exact q3))
            replace hlv := Lib.hid hlv
            obtain ⟨ip, hip, hzp0, hzp1, hzp2⟩ := info_parts pk_info
            obtain ⟨is, his, hzs0, hzs1, hzs2⟩ := info_parts bs_info
            replace hip := Lib.hid hip
            replace hzp0 := Lib.hid hzp0
            replace hzp1 := Lib.hid hzp1
            replace hzp2 := Lib.hid hzp2
            replace his := Lib.hid his
            replace hzs0 := Lib.hid hzs0
            replace hzs1 := Lib.hid hzs1
            replace hzs2 := Lib.hid hzs2
            obtain rfl := hdl.out
            go_wp2_with fail
            refine (copied_any ⟨now, delay, false, count, lA, ln, lc, lose, bA, bn, bc, box⟩ wr (h.out.more hb.out) hs0.out).mono ?_; rintro e w3 ⟨l', rfl, hok, hv, hf, hrow, hsep, hb3⟩
            obtain ⟨now2, delay2, cut2, count2, lA2, ln2, lc2, lose2, bA2, bn2, bc2, box2⟩ := l'
            simp only [Lk.val, Lv.mk.injEq] at hv
            obtain ⟨e0, e1, e2, e3, e4, e5⟩ := hv
            obtain rfl := e0.symm
            obtain rfl := e1.symm
            obtain rfl := e2
            obtain rfl := e3.symm
            obtain rfl := e4.symm
            have hbx := Lib.hid e5
            clear e0 e1 e3 e4 e5
            simp only [lkV] at *
            have hg10 : Hid (w.heap.size + 1 < w3.heap.size) := Nat.lt_of_lt_of_le hZ.out.lt hb3.size
            have hbn2 : Hid (box2.length = bn2) := hok.ba.len
            have hbl2 : Hid (box2.length = box.length) := by show _ = _; have := congrArg List.length hbx.out; simpa using this
            have hlt3 : Hid (LkLt w3.heap.size ⟨now, delay, false, count, lA2, ln2, lc2, lose, bA2, bn2, bc2, box2⟩) := LkOk_lt hok
            have hfN : Hid (LkFr (w.heap.size + 1 + 1) ⟨now, delay, false, count, lA2, ln2, lc2, lose, bA2, bn2, bc2, box2⟩) := hf.mono (Nat.succ_le_of_lt hZ.out.lt)
            have hlb := Lib.hid hok.lb
            have hbb2 := Lib.hid hok.bb
            have hok6 : Hid (LkOk (w3.alloc (.cells #[Value.int .i64 now, Value.int .i64 delay, Value.bool false, Value.int .i64 (count + 1), Value.slice lA2 ln2 lc2, Value.slice bA2 bn2 bc2] 25)) ⟨now, delay, false, count, lA2, ln2, lc2, lose, bA2, bn2, bc2, box2⟩) := hok.more (a1 w3 _)
            have hX6 := Lib.hid ((hX.out.below hb3 hX.out.lt).alloc (.cells #[Value.int .i64 now, Value.int .i64 delay, Value.bool false, Value.int .i64 (count + 1), Value.slice lA2 ln2 lc2, Value.slice bA2 bn2 bc2] 25))
            have hZ6 := Lib.hid ((hZ.out.below hb3 hZ.out.lt).alloc (.cells #[Value.int .i64 now, Value.int .i64 delay, Value.bool false, Value.int .i64 (count + 1), Value.slice lA2 ln2 lc2, Value.slice bA2 bn2 bc2] 25))
            have hT6 := Lib.hid (Blk.new w3 25 #[Value.int .i64 now, Value.int .i64 delay, Value.bool false, Value.int .i64 (count + 1), Value.slice lA2 ln2 lc2, Value.slice bA2 bn2 bc2])
            have hT5 := Lib.hid (Blk.new w3 25 #[Value.int .i64 now, Value.int .i64 delay, Value.bool false, Value.int .i64 count, Value.slice lA2 ln2 lc2, Value.slice bA2 bn2 bc2])
            have hb6 : Hid (Below w.heap.size w (w3.alloc (.cells #[Value.int .i64 now, Value.int .i64 delay, Value.bool false, Value.int .i64 (count + 1), Value.slice lA2 ln2 lc2, Value.slice bA2 bn2 bc2] 25))) := (hb.out.trans (hb3.mono hb.out.size)).alloc (hb.out.trans (hb3.mono hb.out.size)).size _
            have hb6s : Hid (w.heap.size ≤ (w3.alloc (.cells #[Value.int .i64 now, Value.int .i64 delay, Value.bool false, Value.int .i64 (count + 1), Value.slice lA2 ln2 lc2, Value.slice bA2 bn2 bc2] 25)).heap.size) := hb6.out.size
            have hrow6 : Hid (LOwn pkC 2 29 (w3.alloc (.cells #[Value.int .i64 now, Value.int .i64 delay, Value.bool false, Value.int .i64 (count + 1), Value.slice lA2 ln2 lc2, Value.slice bA2 bn2 bc2] 25)) w.heap.size (.slice bA2 bn2 bc2) box2) := (hrow.mono hb.out.size).alloc _
            have hsepL : Hid (∀ ad, lA2 = some ad → some ad.block ≠ (Value.slice bA2 bn2 bc2).ownBlock) := fun ad e e2 => by
              cases bA2 with
              | none => cases e2
              | some a2 => injection e2 with e2; exact hsep.1 ad a2 e rfl e2
            have hsepP : Hid (∀ p ∈ box2, 0 < p.n → ∀ ad, p.A = some ad → some ad.block ≠ (Value.slice bA2 bn2 bc2).ownBlock) := fun p hp h0 ad e e2 => by
              cases bA2 with
              | none => cases e2
              | some a2 => injection e2 with e2; exact hsep.2 p hp h0 ad e a2 rfl e2
            have hvO : Hid (∀ g, (Value.slice bA2 bn2 bc2).ownBlock = some g → g < (w3.alloc (.cells #[Value.int .i64 now, Value.int .i64 delay, Value.bool false, Value.int .i64 (count + 1), Value.slice lA2 ln2 lc2, Value.slice bA2 bn2 bc2] 25)).heap.size) := fun g e => (World.ownsRow.lt hrow6.out.2 g e).2
            clear hok hf hrow hsep hb3
            obtain ⟨m0, m1, m2, m3, m4, m5, n0, n1, n2, n3, n4, n5⟩ := (show (w3.alloc (.cells #[Value.int .i64 now, Value.int .i64 delay, Value.bool false, Value.int .i64 count, Value.slice lA2 ln2 lc2, Value.slice bA2 bn2 bc2] 25)).cell? ⟨w3.heap.size, 0, none⟩ = some (Value.int .i64 now) ∧ (w3.alloc (.cells #[Value.int .i64 now, Value.int .i64 delay, Value.bool false, Value.int .i64 count, Value.slice lA2 ln2 lc2, Value.slice bA2 bn2 bc2] 25)).cell? ⟨w3.heap.size, 1, none⟩ = some (Value.int .i64 delay) ∧ (w3.alloc (.cells #[Value.int .i64 now, Value.int .i64 delay, Value.bool false, Value.int .i64 count, Value.slice lA2 ln2 lc2, Value.slice bA2 bn2 bc2] 25)).cell? ⟨w3.heap.size, 2, none⟩ = some (Value.bool false) ∧ (w3.alloc (.cells #[Value.int .i64 now, Value.int .i64 delay, Value.bool false, Value.int .i64 count, Value.slice lA2 ln2 lc2, Value.slice bA2 bn2 bc2] 25)).cell? ⟨w3.heap.size, 3, none⟩ = some (Value.int .i64 count) ∧ (w3.alloc (.cells #[Value.int .i64 now, Value.int .i64 delay, Value.bool false, Value.int .i64 count, Value.slice lA2 ln2 lc2, Value.slice bA2 bn2 bc2] 25)).cell? ⟨w3.heap.size, 4, none⟩ = some (Value.slice lA2 ln2 lc2) ∧ (w3.alloc (.cells #[Value.int .i64 now, Value.int .i64 delay, Value.bool false, Value.int .i64 count, Value.slice lA2 ln2 lc2, Value.slice bA2 bn2 bc2] 25)).cell? ⟨w3.heap.size, 5, none⟩ = some (Value.slice bA2 bn2 bc2) ∧ (w3.alloc (.cells #[Value.int .i64 now, Value.int .i64 delay, Value.bool false, Value.int .i64 count, Value.slice lA2 ln2 lc2, Value.slice bA2 bn2 bc2] 25)).frozen? ⟨w3.heap.size, 0, none⟩ = false ∧ (w3.alloc (.cells #[Value.int .i64 now, Value.int .i64 delay, Value.bool false, Value.int .i64 count, Value.slice lA2 ln2 lc2, Value.slice bA2 bn2 bc2] 25)).frozen? ⟨w3.heap.size, 1, none⟩ = false ∧ (w3.alloc (.cells #[Value.int .i64 now, Value.int .i64 delay, Value.bool false, Value.int .i64 count, Value.slice lA2 ln2 lc2, Value.slice bA2 bn2 bc2] 25)).frozen? ⟨w3.heap.size, 2, none⟩ = false ∧ (w3.alloc (.cells #[Value.int .i64 now, Value.int .i64 delay, Value.bool false, Value.int .i64 count, Value.slice lA2 ln2 lc2, Value.slice bA2 bn2 bc2] 25)).frozen? ⟨w3.heap.size, 3, none⟩ = false ∧ (w3.alloc (.cells #[Value.int .i64 now, Value.int .i64 delay, Value.bool false, Value.int .i64 count, Value.slice lA2 ln2 lc2, Value.slice bA2 bn2 bc2] 25)).frozen? ⟨w3.heap.size, 4, none⟩ = false ∧ (w3.alloc (.cells #[Value.int .i64 now, Value.int .i64 delay, Value.bool false, Value.int .i64 count, Value.slice lA2 ln2 lc2, Value.slice bA2 bn2 bc2] 25)).frozen? ⟨w3.heap.size, 5, none⟩ = false from ⟨hT5.out.cell 0, hT5.out.cell 1, hT5.out.cell 2, hT5.out.cell 3, hT5.out.cell 4, hT5.out.cell 5, hT5.out.frozen 0, hT5.out.frozen 1, hT5.out.frozen 2, hT5.out.frozen 3, hT5.out.frozen 4, hT5.out.frozen 5⟩)
            go_wp2_with fail
            clear m0 m1 m2 m3 m4 m5 n0 n1 n2 n3 n4 n5 hT5
            have hd1 : d.length ≤ 8198 := by omega
            have hb2l : box2.length ≤ 1000 := by have := hbl2.out; omega
            have hbn3 : bn2 ≤ 1000 := by have := hbn2.out; omega
            generalize w3.alloc (.cells #[Value.int .i64 now, Value.int .i64 delay, Value.bool false, Value.int .i64 (count + 1), Value.slice lA2 ln2 lc2, Value.slice bA2 bn2 bc2] 25) = w6 at *
            have hcell : Hid (∀ wz, w6.grownBy wz (Value.slice bA2 bn2 bc2).ownBlock → wz.cell? ⟨w.heap.size, 0, none⟩ = some (Value.int .i64 now) ∧ wz.cell? ⟨w.heap.size, 1, none⟩ = some (Value.int .i64 delay) ∧ wz.cell? ⟨w3.heap.size, 5, none⟩ = some (Value.slice bA2 bn2 bc2)) := fun wz hz => by
              have q := hX6.out.grownT hrow6.out (by decide) hz
              have q2 := hT6.out.grownT hrow6.out (by decide) hz
              exact ⟨q.cell 0, q.cell 1, q2.cell 5⟩
            have hcl : Hid (∀ wz, Below w.heap.size w wz → Calls Try.prog 28 #[.slice A d.length c] wz fun e w' => ∃ v, e = .returned v ∧ BOwn w' wz.heap.size v d ∧ Below wz.heap.size wz w') := fun wz hz => cloneB_any A d.length c d wz (hd.out.more hz) (by omega)
            refine RT.region [(67, 66)] [] (F := F13 w.heap.size w3.heap.size w6.heap.size w.heap.size A bA2 bn2 c bc2 now delay d box2) (W := fun wz => w6.grownBy wz (Value.slice bA2 bn2 bc2).ownBlock ∧ Below w.heap.size w wz ∧ LOwn pkC 2 29 wz w.heap.size (.slice bA2 bn2 bc2) box2) (R := R13 (Value.slice bA2 bn2 bc2).ownBlock) rfl (F13_more hvO.out) (by kernel_rfl) (by kernel_rfl) (by kernel_rfl) (by kernel_rfl) (by kernel_rfl) (by kernel_rfl) rfl rfl ?_ ?_ ?_ ?_
            · exact ⟨only_of_below (below_dr (Below.refl _ _)) _, below_dr hb6.out, hrow6.out.drew⟩
            · intro t ht
              unfold F13
              split <;> first | trivial | exact rfl | (exact absurd ht (by decide))
            · simp only [List.forall_mem_cons, List.not_mem_nil, false_implies, implies_true, and_true]
              refine ⟨?_, ?_, ?_, ?_, ?_, ?_, ?_, ?_, ?_, ?_, ?_, ?_, ?_, ?_⟩
              · intro a w2 hw _ hf K hK
                have f0 := hf 10 rfl
                simp only [F13] at f0
                clear hf
                go_simp
                exact hK _ _ _ rfl rfl hw (Below.refl _ _) (fun h => absurd h (by decide))
              · intro a w2 hw _ hf K hK
                have f0 := hf 56 rfl
                simp only [F13] at f0
                clear hf
                obtain ⟨k0, k1, k5⟩ := hcell.out w2 hw.1
                go_simp
                exact hK _ _ _ rfl rfl hw (Below.refl _ _) (fun h => absurd h (by decide))
              · intro a w2 hw _ hf K hK
                have f0 := hf 2 rfl
                simp only [F13] at f0
                clear hf
                go_simp
                exact hK _ _ _ rfl rfl hw (Below.refl _ _) (fun h => absurd h (by decide))
              · intro a w2 hw _ hf K hK
                have f0 := hf 58 rfl
                simp only [F13] at f0
                clear hf
                obtain ⟨k0, k1, k5⟩ := hcell.out w2 hw.1
                go_simp
                exact hK _ _ _ rfl rfl hw (Below.refl _ _) (fun h => absurd h (by decide))
              · intro a w2 hw _ hf K hK
                have f0 := hf 2 rfl
                simp only [F13] at f0
                clear hf
                go_simp
                exact hK _ _ _ rfl rfl hw (Below.refl _ _) (fun h => absurd h (by decide))
              · intro a w2 hw _ hf K hK
                have f0 := hf 60 rfl
                simp only [F13] at f0
                clear hf
                obtain ⟨k0, k1, k5⟩ := hcell.out w2 hw.1
                go_simp
                exact hK _ _ _ rfl rfl hw (Below.refl _ _) (fun h => absurd h (by decide))
              · intro a w2 hw _ hf K hK
                have f0 := hf 59 rfl
                have f1 := hf 61 rfl
                simp only [F13] at f0 f1
                clear hf
                go_simp
                exact hK _ _ _ rfl (by show _ = _; rw [IntWalk.i64_in _ (by omega)]) hw (Below.refl _ _) (fun h => absurd h (by decide))
              · intro a w2 hw _ hf K hK
                have f0 := hf 1 rfl
                simp only [F13] at f0
                clear hf
                go_simp
                exact hK _ _ _ rfl rfl hw (Below.refl _ _) (fun h => absurd h (by decide))
              · intro a w2 hw _ hf K hK
                have f0 := hf 63 rfl
                simp only [F13] at f0
                clear hf
                go_simp
                refine (hcl.out w2 hw.2.1).mono ?_; rintro e w5 ⟨v, rfl, ho, hbq⟩
                exact hK _ _ _ rfl (ho.mono hw.1.size) ⟨hw.1.trans (only_of_below hbq _), hw.2.1.trans (hbq.mono hw.2.1.size), hw.2.2.kept hbq⟩ hbq (fun h => absurd h (by decide))
              · intro a w2 hw _ hf K hK
                have f0 := hf 62 rfl
                have f1 := hf 64 rfl
                simp only [F13] at f0 f1
                clear hf
                obtain ⟨A', c', hv, -, -, -, -⟩ := f1.form
                rw [hv] at f1
                have hf1 := Lib.hid f1
                clear f1
                go_simp
                exact hK _ _ _ rfl ⟨A', c', rfl, hf1.out⟩ hw (Below.refl _ _) (fun h => absurd h (by decide))
              · intro a w2 hw _ hf K hK
                have f0 := hf 65 rfl
                simp only [F13] at f0
                clear hf
                obtain ⟨A', c', hv, hB⟩ := f0
                have hB := Lib.hid hB
                go_simp
                exact hK _ _ _ rfl ⟨w2.heap.size, A', c', rfl, hw.1.size, Blk.new w2 29 _, hB.out.alloc _⟩ ⟨hw.1.trans (only_of_below (a1 w2 _) _), hw.2.1.trans ((a1 w2 _).mono hw.2.1.size), hw.2.2.kept (a1 w2 _)⟩ (a1 _ _) (fun h => absurd h (by decide))
              · intro a w2 hw _ hf K hK
                have f0 := hf 57 rfl
                have f1 := hf 66 rfl
                simp only [F13] at f0 f1
                clear hf
                obtain ⟨gl, A', c', e1, hgl, hBl, hD⟩ := f1
                refine wp_append_old w2 (.tmp 57) (.tmp 66) 23 rfl w.heap.size 29 ip _ 2 32 Try.underlying23 hip.out hzp0.out hzp1.out hzp2.out rfl (by omega) (.slice bA2 bn2 bc2) bn2 (flat pkC box2) ((eval_tmp a 57).trans f0) (by have := hw.2.2.2; rw [hbn2.out] at this; exact this) w2.heap.size (some ⟨gl, 0, none⟩) 1 1 (flat pkC [(⟨now + delay, A', d.length, c', d⟩ : Pk)]) ((eval_tmp a 66).trans e1) (lat_blk pkC_len hBl [(⟨now + delay, A', d.length, c', d⟩ : Pk)] 1 rfl (by simp [flat, pkC])).2 (pkC_one _) (by simp only [maxLen]; omega) (by omega) hw.2.1.size ?_
                intro v' w' hown hg hold
                have hold2 : LOwn pkC 2 29 w' w.heap.size (.slice bA2 bn2 bc2) box2 := ⟨pkC_len, by rw [hbn2.out]; exact hold⟩
                have hbb := below_row hw.2.1 hw.2.2 (Nat.le_refl _) hw.2.1.size hg
                exact hK _ _ _ rfl ⟨A', c', ⟨pkC_len, by rw [List.length_append, flat_append, hbn2.out]; exact hown⟩, bown_grown hD hg hvO.out⟩ ⟨hw.1.trans hg, hbb, hold2⟩ hg (fun h => absurd h (by decide))
              · intro a w2 hw _ hf K hK
                have f0 := hf 10 rfl
                simp only [F13] at f0
                clear hf
                go_simp
                exact hK _ _ _ rfl rfl hw (Below.refl _ _) (fun h => absurd h (by decide))
              · trivial
            · intro a' w9 hd hs hw hout hf
              have h67 := hf 67 rfl
              simp only [F13] at h67
              have h68 := hf 68 rfl
              simp only [F13] at h68
              have e0 : _ = some (Value.agg #[Value.int .i64 now, Value.int .i64 delay, Value.bool false, Value.int .i64 count, Value.slice lA ln lc, Value.slice bA bn bc]) := hout 0 rfl
              have e1 : _ = some (Value.slice A d.length c) := hout 1 rfl
              have e2 : _ = some (Value.pointer (some ⟨w.heap.size, 0, none⟩)) := hout 2 rfl
              have e4 : _ = some (Value.pointer (some ⟨w.heap.size + 1, 0, none⟩)) := hout 4 rfl
              have e5 : _ = some (Value.int .i64 0) := hout 5 rfl
              have e10 : _ = some (Value.pointer (some ⟨w3.heap.size, 0, none⟩)) := hout 10 rfl
              obtain ⟨tm, df⟩ := a'
              simp only at hd hs h67 h68 e0 e1 e2 e4 e5 e10
              have e := lit_arr tm 70 hs
              rw [show (List.range 70).map (fun i => tm[i]?.getD undef) = [tm[0]?.getD undef, tm[1]?.getD undef, tm[2]?.getD undef, tm[3]?.getD undef, tm[4]?.getD undef, tm[5]?.getD undef, tm[6]?.getD undef, tm[7]?.getD undef, tm[8]?.getD undef, tm[9]?.getD undef, tm[10]?.getD undef, tm[11]?.getD undef, tm[12]?.getD undef, tm[13]?.getD undef, tm[14]?.getD undef, tm[15]?.getD undef, tm[16]?.getD undef, tm[17]?.getD undef, tm[18]?.getD undef, tm[19]?.getD undef, tm[20]?.getD undef, tm[21]?.getD undef, tm[22]?.getD undef, tm[23]?.getD undef, tm[24]?.getD undef, tm[25]?.getD undef, tm[26]?.getD undef, tm[27]?.getD undef, tm[28]?.getD undef, tm[29]?.getD undef, tm[30]?.getD undef, tm[31]?.getD undef, tm[32]?.getD undef, tm[33]?.getD undef, tm[34]?.getD undef, tm[35]?.getD undef, tm[36]?.getD undef, tm[37]?.getD undef, tm[38]?.getD undef, tm[39]?.getD undef, tm[40]?.getD undef, tm[41]?.getD undef, tm[42]?.getD undef, tm[43]?.getD undef, tm[44]?.getD undef, tm[45]?.getD undef, tm[46]?.getD undef, tm[47]?.getD undef, tm[48]?.getD undef, tm[49]?.getD undef, tm[50]?.getD undef, tm[51]?.getD undef, tm[52]?.getD undef, tm[53]?.getD undef, tm[54]?.getD undef, tm[55]?.getD undef, tm[56]?.getD undef, tm[57]?.getD undef, tm[58]?.getD undef, tm[59]?.getD undef, tm[60]?.getD undef, tm[61]?.getD undef, tm[62]?.getD undef, tm[63]?.getD undef, tm[64]?.getD undef, tm[65]?.getD undef, tm[66]?.getD undef, tm[67]?.getD undef, tm[68]?.getD undef, tm[69]?.getD undef] from rfl] at e
              simp only [h68, e0, e1, e2, e4, e5, e10, Option.getD_some] at e
              clear hf hout hs
              rw [e, hd]
              clear e hd h68 e0 e1 e2 e4 e5 e10
              generalize tm[3]?.getD undef = u3x
              generalize tm[6]?.getD undef = u6x
              generalize tm[7]?.getD undef = u7x
              generalize tm[8]?.getD undef = u8x
              generalize tm[9]?.getD undef = u9x
              generalize tm[11]?.getD undef = u11x
              generalize tm[12]?.getD undef = u12x
              generalize tm[13]?.getD undef = u13x
              generalize tm[14]?.getD undef = u14x
              generalize tm[15]?.getD undef = u15x
              generalize tm[16]?.getD undef = u16x
              generalize tm[17]?.getD undef = u17x
              generalize tm[18]?.getD undef = u18x
              generalize tm[19]?.getD undef = u19x
              generalize tm[20]?.getD undef = u20x
              generalize tm[21]?.getD undef = u21x
              generalize tm[22]?.getD undef = u22x
              generalize tm[23]?.getD undef = u23x
              generalize tm[24]?.getD undef = u24x
              generalize tm[25]?.getD undef = u25x
              generalize tm[26]?.getD undef = u26x
              generalize tm[27]?.getD undef = u27x
              generalize tm[28]?.getD undef = u28x
              generalize tm[29]?.getD undef = u29x
              generalize tm[30]?.getD undef = u30x
              generalize tm[31]?.getD undef = u31x
              generalize tm[32]?.getD undef = u32x
              generalize tm[33]?.getD undef = u33x
              generalize tm[34]?.getD undef = u34x
              generalize tm[35]?.getD undef = u35x
              generalize tm[36]?.getD undef = u36x
              generalize tm[37]?.getD undef = u37x
              generalize tm[38]?.getD undef = u38x
              generalize tm[39]?.getD undef = u39x
              generalize tm[40]?.getD undef = u40x
              generalize tm[41]?.getD undef = u41x
              generalize tm[42]?.getD undef = u42x
              generalize tm[43]?.getD undef = u43x
              generalize tm[44]?.getD undef = u44x
              generalize tm[45]?.getD undef = u45x
              generalize tm[46]?.getD undef = u46x
              generalize tm[47]?.getD undef = u47x
              generalize tm[48]?.getD undef = u48x
              generalize tm[49]?.getD undef = u49x
              generalize tm[50]?.getD undef = u50x
              generalize tm[51]?.getD undef = u51x
              generalize tm[52]?.getD undef = u52x
              generalize tm[53]?.getD undef = u53x
              generalize tm[54]?.getD undef = u54x
              generalize tm[55]?.getD undef = u55x
              generalize tm[56]?.getD undef = u56x
              generalize tm[57]?.getD undef = u57x
              generalize tm[58]?.getD undef = u58x
              generalize tm[59]?.getD undef = u59x
              generalize tm[60]?.getD undef = u60x
              generalize tm[61]?.getD undef = u61x
              generalize tm[62]?.getD undef = u62x
              generalize tm[63]?.getD undef = u63x
              generalize tm[64]?.getD undef = u64x
              generalize tm[65]?.getD undef = u65x
              generalize tm[66]?.getD undef = u66x
              generalize tm[67]?.getD undef = u67x at h67 ⊢
              generalize tm[69]?.getD undef = u69x
              obtain ⟨A', c', h39, hD⟩ := h67
              obtain ⟨A9, c9, hv9, hc9, hm9, hf9, -⟩ := h39.form
              rw [show (box2 ++ [(⟨now + delay, A', d.length, c', d⟩ : Pk)]).length = box2.length + 1 by simp] at hv9 hc9
              subst hv9
              obtain ⟨hw1, hw2, -⟩ := hw
              have h39 := Lib.hid h39
              have hD := Lib.hid hD
              have hb := Lib.hid hw2
              have hla := Lib.hid (LAt_grownO hok6.out.la (fun _ ad e e2 => hsepL.out ad e e2) hw1)
              have hpk : Hid (∀ p ∈ box2, PkAt w9 p) := fun p hp => PkAt_grownO (hok6.out.bd p hp) (fun h0 ad e e2 => hsepP.out p hp h0 ad e e2) hw1
              have hX := Lib.hid (hX6.out.grownT hrow6.out (by decide) hw1)
              have hZ := Lib.hid (hZ6.out.grownT hrow6.out (by decide) hw1)
              have hT := Lib.hid (hT6.out.grownT hrow6.out (by decide) hw1)
              clear hw1 hw2 hcell hcl hf9 hX6 hZ6 hT6 hrow6 hok6
              obtain ⟨k0, k1, k2, k3, k4, k5, y0, y1, y2, y3, y4, y5⟩ := (show w9.cell? ⟨w3.heap.size, 0, none⟩ = some (Value.int .i64 now) ∧ w9.cell? ⟨w3.heap.size, 1, none⟩ = some (Value.int .i64 delay) ∧ w9.cell? ⟨w3.heap.size, 2, none⟩ = some (Value.bool false) ∧ w9.cell? ⟨w3.heap.size, 3, none⟩ = some (Value.int .i64 (count + 1)) ∧ w9.cell? ⟨w3.heap.size, 4, none⟩ = some (Value.slice lA2 ln2 lc2) ∧ w9.cell? ⟨w3.heap.size, 5, none⟩ = some (Value.slice bA2 bn2 bc2) ∧ w9.frozen? ⟨w3.heap.size, 0, none⟩ = false ∧ w9.frozen? ⟨w3.heap.size, 1, none⟩ = false ∧ w9.frozen? ⟨w3.heap.size, 2, none⟩ = false ∧ w9.frozen? ⟨w3.heap.size, 3, none⟩ = false ∧ w9.frozen? ⟨w3.heap.size, 4, none⟩ = false ∧ w9.frozen? ⟨w3.heap.size, 5, none⟩ = false from ⟨hT.out.cell 0, hT.out.cell 1, hT.out.cell 2, hT.out.cell 3, hT.out.cell 4, hT.out.cell 5, hT.out.frozen 0, hT.out.frozen 1, hT.out.frozen 2, hT.out.frozen 3, hT.out.frozen 4, hT.out.frozen 5⟩)
              have hTs : Hid (Blk (w9.setCell ⟨w3.heap.size, 5, none⟩ (Value.slice A9 (box2.length + 1) c9)) w3.heap.size 25 #[Value.int .i64 now, Value.int .i64 delay, Value.bool false, Value.int .i64 (count + 1), Value.slice lA2 ln2 lc2, Value.slice A9 (box2.length + 1) c9]) := hT.out.set_ 5 _
              have hZs : Hid (Blk (w9.setCell ⟨w3.heap.size, 5, none⟩ (Value.slice A9 (box2.length + 1) c9)) (w.heap.size + 1) 25 #[Value.int .i64 0, Value.int .i64 0, Value.bool false, Value.int .i64 0, Value.slice none 0 0, Value.slice none 0 0]) := hZ.out.far (p := ⟨w3.heap.size, 5, none⟩) (by have := hg10.out; simp; omega) _
              have hgs : Hid (w9.grownBy (w9.setCell ⟨w3.heap.size, 5, none⟩ (Value.slice A9 (box2.length + 1) c9)) (some w3.heap.size)) := only_set (World.grownBy.refl _ _) 5 _
              have h39s := Lib.hid (h39.out.grownB hT.out (by decide) hgs.out)
              have hDs := Lib.hid (hD.out.grownB hT.out (by decide) hgs.out)
              have hlas := Lib.hid (LAt_grownO hla.out (fun h0 ad e e2 => by injection e2 with e2; have := hlt3.out.1 h0 ad e; omega) hgs.out)
              have hpks : Hid (∀ p ∈ box2, PkAt _ p) := fun p hp => PkAt_grownO (hpk.out p hp) (fun h0 ad e e2 => by injection e2 with e2; have := hlt3.out.2.2 p hp h0 ad e; omega) hgs.out
              have hbs := Lib.hid (below_set hb.out (show w.heap.size ≤ w3.heap.size by have := hg10.out; omega) 5 (Value.slice A9 (box2.length + 1) c9))
              obtain ⟨s0, s1, s2, s3, s4, s5⟩ := (show (w9.setCell ⟨w3.heap.size, 5, none⟩ (Value.slice A9 (box2.length + 1) c9)).cell? ⟨w3.heap.size, 0, none⟩ = some (Value.int .i64 now) ∧ (w9.setCell ⟨w3.heap.size, 5, none⟩ (Value.slice A9 (box2.length + 1) c9)).cell? ⟨w3.heap.size, 1, none⟩ = some (Value.int .i64 delay) ∧ (w9.setCell ⟨w3.heap.size, 5, none⟩ (Value.slice A9 (box2.length + 1) c9)).cell? ⟨w3.heap.size, 2, none⟩ = some (Value.bool false) ∧ (w9.setCell ⟨w3.heap.size, 5, none⟩ (Value.slice A9 (box2.length + 1) c9)).cell? ⟨w3.heap.size, 3, none⟩ = some (Value.int .i64 (count + 1)) ∧ (w9.setCell ⟨w3.heap.size, 5, none⟩ (Value.slice A9 (box2.length + 1) c9)).cell? ⟨w3.heap.size, 4, none⟩ = some (Value.slice lA2 ln2 lc2) ∧ (w9.setCell ⟨w3.heap.size, 5, none⟩ (Value.slice A9 (box2.length + 1) c9)).cell? ⟨w3.heap.size, 5, none⟩ = some (Value.slice A9 (box2.length + 1) c9) from ⟨hTs.out.cell 0, hTs.out.cell 1, hTs.out.cell 2, hTs.out.cell 3, hTs.out.cell 4, hTs.out.cell 5⟩)
              obtain ⟨u0, u1, u2, u3, u4, u5, z0, z1, z2, z3, z4, z5⟩ := (show (w9.setCell ⟨w3.heap.size, 5, none⟩ (Value.slice A9 (box2.length + 1) c9)).cell? ⟨(w.heap.size + 1), 0, none⟩ = some (Value.int .i64 0) ∧ (w9.setCell ⟨w3.heap.size, 5, none⟩ (Value.slice A9 (box2.length + 1) c9)).cell? ⟨(w.heap.size + 1), 1, none⟩ = some (Value.int .i64 0) ∧ (w9.setCell ⟨w3.heap.size, 5, none⟩ (Value.slice A9 (box2.length + 1) c9)).cell? ⟨(w.heap.size + 1), 2, none⟩ = some (Value.bool false) ∧ (w9.setCell ⟨w3.heap.size, 5, none⟩ (Value.slice A9 (box2.length + 1) c9)).cell? ⟨(w.heap.size + 1), 3, none⟩ = some (Value.int .i64 0) ∧ (w9.setCell ⟨w3.heap.size, 5, none⟩ (Value.slice A9 (box2.length + 1) c9)).cell? ⟨(w.heap.size + 1), 4, none⟩ = some (Value.slice none 0 0) ∧ (w9.setCell ⟨w3.heap.size, 5, none⟩ (Value.slice A9 (box2.length + 1) c9)).cell? ⟨(w.heap.size + 1), 5, none⟩ = some (Value.slice none 0 0) ∧ (w9.setCell ⟨w3.heap.size, 5, none⟩ (Value.slice A9 (box2.length + 1) c9)).frozen? ⟨(w.heap.size + 1), 0, none⟩ = false ∧ (w9.setCell ⟨w3.heap.size, 5, none⟩ (Value.slice A9 (box2.length + 1) c9)).frozen? ⟨(w.heap.size + 1), 1, none⟩ = false ∧ (w9.setCell ⟨w3.heap.size, 5, none⟩ (Value.slice A9 (box2.length + 1) c9)).frozen? ⟨(w.heap.size + 1), 2, none⟩ = false ∧ (w9.setCell ⟨w3.heap.size, 5, none⟩ (Value.slice A9 (box2.length + 1) c9)).frozen? ⟨(w.heap.size + 1), 3, none⟩ = false ∧ (w9.setCell ⟨w3.heap.size, 5, none⟩ (Value.slice A9 (box2.length + 1) c9)).frozen? ⟨(w.heap.size + 1), 4, none⟩ = false ∧ (w9.setCell ⟨w3.heap.size, 5, none⟩ (Value.slice A9 (box2.length + 1) c9)).frozen? ⟨(w.heap.size + 1), 5, none⟩ = false from ⟨hZs.out.cell 0, hZs.out.cell 1, hZs.out.cell 2, hZs.out.cell 3, hZs.out.cell 4, hZs.out.cell 5, hZs.out.frozen 0, hZs.out.frozen 1, hZs.out.frozen 2, hZs.out.frozen 3, hZs.out.frozen 4, hZs.out.frozen 5⟩)
              go_simp
              go_wp2_with fail
              clear k0 k1 k2 k3 k4 k5 y0 y1 y2 y3 y4 y5 s0 s1 s2 s3 s4 s5 u0 u1 u2 u3 u4 u5 z0 z1 z2 z3 z4 z5 hT hX hZ h39 hD hb hgs hla hpk
              generalize w9.setCell ⟨w3.heap.size, 5, none⟩ (Value.slice A9 (box2.length + 1) c9) = ws at *
              (try simp only [Exit.inBlock, Exit.then])
              have hB := lk_set6 hZs.out (Value.int .i64 now) (Value.int .i64 delay) (Value.bool false) (Value.int .i64 (count + 1)) (Value.slice lA2 ln2 lc2) (Value.slice A9 (box2.length + 1) c9)
              have hbF := below_set6 hbs.out (Nat.le_succ _) (Value.int .i64 now) (Value.int .i64 delay) (Value.bool false) (Value.int .i64 (count + 1)) (Value.slice lA2 ln2 lc2) (Value.slice A9 (box2.length + 1) c9)
              have hgF := grown_set6 (ws) (w.heap.size + 1) (Value.int .i64 now) (Value.int .i64 delay) (Value.bool false) (Value.int .i64 (count + 1)) (Value.slice lA2 ln2 lc2) (Value.slice A9 (box2.length + 1) c9)
              refine bodyPost_ret (v := .tuple #[.agg #[Value.int .i64 now, Value.int .i64 delay, Value.bool false, Value.int .i64 (count + 1), Value.slice lA2 ln2 lc2, Value.slice A9 (box2.length + 1) c9], .int .i64 0]) ?_ rfl ?_
              · refine (res2 (fn := Try.f13) (p := 4) (u := 5) (ty := 25) rfl _ _ (w.heap.size + 1) 25 _ (0, 0) _ ?_ hB Try.underlying25 rfl (by kernel_rfl)).trans ?_
                · rfl
                · rfl
              clear hB
              generalize (((((((ws).setCell ⟨(w.heap.size + 1), 0, none⟩ (Value.int .i64 now)).setCell ⟨(w.heap.size + 1), 1, none⟩ (Value.int .i64 delay)).setCell ⟨(w.heap.size + 1), 2, none⟩ (Value.bool false)).setCell ⟨(w.heap.size + 1), 3, none⟩ (Value.int .i64 (count + 1))).setCell ⟨(w.heap.size + 1), 4, none⟩ (Value.slice lA2 ln2 lc2)).setCell ⟨(w.heap.size + 1), 5, none⟩ (Value.slice A9 (box2.length + 1) c9)) = wF at *
              have hlaF := LAt_grown hlas.out (fun _ ad e => by have := hfN.out.1 ad e; omega) hgF
              have hpkF : ∀ p ∈ box2, PkAt wF p := fun p hp => PkAt_grown (hpks.out p hp) (fun _ ad e => by have := hfN.out.2.2 p hp ad e; omega) hgF
              have hu9 := h39s.out.grownB hZs.out (by decide) hgF
              have hD9 := hDs.out.grownB hZs.out (by decide) hgF
              have hpbA := hu9.form
              obtain ⟨A8, c8, e9, -, -, hfa, hat9⟩ := hu9.form
              rw [show (box2 ++ [(⟨now + delay, A', d.length, c', d⟩ : Pk)]).length = box2.length + 1 by simp] at hat9 e9
              injection e9 with e9 _ e10
              subst e9; subst e10
              obtain ⟨A8, c8, e9, hq1, hq2, hfd, hatD⟩ := hD9.form
              injection e9 with e9 _ e10
              subst e9; subst e10
              refine ⟨⟨⟨now, delay, false, count + 1, lA2, ln2, lc2, lose, A9, box2.length + 1, c9, (box2 ++ [(⟨now + delay, A', d.length, c', d⟩ : Pk)])⟩, by rw [hF.out]; try rfl, ⟨hlaF, hlb.out, h.out.li, hat9, ⟨hc9, hm9⟩, ?_, ⟨h.out.ii.1, h.out.ii.2.1, by simp only [i64In]; omega⟩⟩, by rw [hF.out]; simp only [Lk.val, hbx.out, List.map_append]; rfl, ?_, ?_⟩, hbF⟩
              · intro p hp
                rcases List.mem_append.1 hp with hp | hp
                · exact hpkF p hp
                · simp at hp; subst hp
                  exact ⟨⟨hatD, hq1, hq2⟩, by simp only [i64In]; omega⟩
              · intro _
                refine ⟨fun ad e => by have := hfN.out.1 ad e; omega, fun ad e => (hfa ad e).2.1, ?_⟩
                intro p hp ad e
                rcases List.mem_append.1 hp with hp | hp
                · have := hfN.out.2.2 p hp ad e; omega
                · simp at hp; subst hp
                  have := (hfd ad e).2.1
                  have := hb6s.out
                  omega
              · refine LkFr.k ?_
                refine ⟨fun ad e => by have := hfN.out.1 ad e; omega, fun ad e => (hfa ad e).2.1, ?_⟩
                intro p hp ad e
                rcases List.mem_append.1 hp with hp | hp
                · have := hfN.out.2.2 p hp ad e; omega
                · simp at hp; subst hp
                  have := (hfd ad e).2.1
                  have := hb6s.out
                  omega
end Go.Proofs.Yteolglmdfjddlaa
