/- Links: lost, the reference's Send, walked. -/
import Derived.Test.YteolglmdfjddlaaLE
import Derived.Test.YteolglmdfjddlaaRT
set_option linter.unusedVariables false
set_option linter.unusedSimpArgs false
namespace Go.Proofs.Yteolglmdfjddlaa
open Go.RowKit
theorem eval_tmp (a : Act) (t : Tmp) : a.eval (.tmp t) = a.tmps[t]?.getD undef := by simp [Act.eval, Array.getD_eq_getD_getElem?]
/-- an empty slice of the call's own -/
def E0 (ty : TypeId) (base : Nat) (v : Value) (w : World) : Prop := ∃ g, v = .slice (some ⟨g, 0, none⟩) 0 0 ∧ base ≤ g ∧ Blk w g ty #[]
theorem E0.more {ty : TypeId} {base : Nat} {v : Value} {w w' : World} (h : E0 ty base v w) (hb : Below w.heap.size w w') : E0 ty base v w' := by
  obtain ⟨g, e, h1, h2⟩ := h
  exact ⟨g, e, h1, h2.below hb h2.lt⟩
/-- a packet's cells, as a value -/
def PkV (base : Nat) (due : Int) (d : List UInt8) (v : Value) (w : World) : Prop := ∃ A c, v = .agg #[.int .i64 due, .slice A d.length c] ∧ BOwn w base (.slice A d.length c) d
theorem PkV.more {base : Nat} {due : Int} {d : List UInt8} {v : Value} {w w' : World} (h : PkV base due d v w) (hb : Below w.heap.size w w') : PkV base due d v w' := by
  obtain ⟨A, c, e, h1⟩ := h
  exact ⟨A, c, e, h1.kept hb⟩
/-- a new block that is a variable -/
def NewB (base : Nat) (ty : TypeId) (cs : Array Value) (v : Value) (w : World) : Prop := ∃ g, v = .pointer (some ⟨g, 0, none⟩) ∧ base ≤ g ∧ Blk w g ty cs
theorem NewB.more {ty : TypeId} {base : Nat} {cs : Array Value} {v : Value} {w w' : World} (h : NewB base ty cs v w) (hb : Below w.heap.size w w') : NewB base ty cs v w' := by
  obtain ⟨g, e, h1, h2⟩ := h
  exact ⟨g, e, h1, h2.below hb h2.lt⟩
/-- a literal of one packet -/
def Lit1 (base : Nat) (cs : Array Value) (v : Value) (w : World) : Prop := ∃ g, v = .slice (some ⟨g, 0, none⟩) 1 1 ∧ base ≤ g ∧ Blk w g 29 cs
theorem Lit1.more {base : Nat} {cs : Array Value} {v : Value} {w w' : World} (h : Lit1 base cs v w) (hb : Below w.heap.size w w') : Lit1 base cs v w' := by
  obtain ⟨g, e, h1, h2⟩ := h
  exact ⟨g, e, h1, h2.below hb h2.lt⟩
theorem bown_grown {α : Type} {f : α → List Value} {s base : Nat} {e : TypeId} {w w' : World} {v : Value} {l : List α} {o : Option Nat} (h : LOwn f s e w base v l) (hg : w.grownBy w' o) (ho : ∀ g, o = some g → g < base) : LOwn f s e w' base v l :=
  ⟨h.1, World.ownsRow.kept h.2 hg (by
    cases e : v.ownBlock with
    | none => exact Or.inl rfl
    | some k => refine Or.inr (fun hk => ?_); have := ho k hk.symm; have := (World.ownsRow.lt h.2 _ e).1; omega)⟩
theorem LAt_grownO {α : Type} {f : α → List Value} {s n : Nat} {w w' : World} {A : Option Addr} {l : List α} {o : Option Nat} (h : LAt f s w w.heap.size A n l) (hne : 0 < n → ∀ ad, A = some ad → some ad.block ≠ o) (hg : w.grownBy w' o) : LAt f s w' w'.heap.size A n l := by
  refine ⟨h.1, h.2.1, fun hn => ?_⟩
  obtain ⟨ad, rfl, hb, hc⟩ := h.2.2 hn
  refine ⟨ad, rfl, Nat.lt_of_lt_of_le hb hg.size, fun j u hu => ?_⟩
  have hbl : (ad.add j).block = ad.block := add_block ad j
  have e := hc j u hu
  unfold World.cell? at e ⊢
  rw [hbl] at e ⊢
  rw [hg.block ad.block hb (hne hn ad rfl)]
  exact e
theorem PkAt_grownO {w w' : World} {p : Pk} {o : Option Nat} (h : PkAt w p) (hne : 0 < p.n → ∀ ad, p.A = some ad → some ad.block ≠ o) (hg : w.grownBy w' o) : PkAt w' p := ⟨⟨LAt_grownO h.1.1 hne hg, h.1.2⟩, h.2⟩
theorem send_long (v : Lv) (d : List UInt8) (h : 8198 < d.length ∨ 2147483647 ≤ v.count) : sendL v d = (v, 3) := by unfold sendL; rw [if_pos h]
theorem send_lost (v : Lv) (d : List UInt8) (h : ¬ (8198 < d.length ∨ 2147483647 ≤ v.count)) (h2 : lostL v = true) : sendL v d = ({ v with count := v.count + 1 }, 0) := by unfold sendL; rw [if_neg h, if_pos h2]
theorem send_full (v : Lv) (d : List UInt8) (h : ¬ (8198 < d.length ∨ 2147483647 ≤ v.count)) (h2 : lostL v = false) (h3 : 256 ≤ v.box.length) : sendL v d = (v, 3) := by unfold sendL; rw [if_neg h, if_neg (by rw [h2]; decide), if_pos h3]
theorem send_go (v : Lv) (d : List UInt8) (h : ¬ (8198 < d.length ∨ 2147483647 ≤ v.count)) (h2 : lostL v = false) (h3 : ¬ 256 ≤ v.box.length) : sendL v d = ({ v with count := v.count + 1, box := v.box ++ [(v.now + v.delay, d)] }, 0) := by unfold sendL; rw [if_neg h, if_neg (by rw [h2]; decide), if_neg h3]
/-- what Send hands back -/
def SendRes (B : Nat) (l : Lk) (w' : World) (r : Lv × Int) (e : Ending) : Prop := ∃ l', e = .returned (.tuple #[lkV l', .int .i64 r.2]) ∧ LkOk w' l' ∧ l'.val = r.1 ∧ LkK B l l'
theorem contains_snoc (l : List Int) (x c : Int) : (l ++ [x]).contains c = (l.contains c || (x == c)) := by
  rw [Bool.eq_iff_iff]
  simp
  constructor
  · rintro (h | h)
    · exact .inl h
    · exact .inr h.symm
  · rintro (h | h)
    · exact .inl h
    · exact .inr h.symm
set_option maxRecDepth 100000 in
set_option maxHeartbeats 8000000 in
theorem lost_any (l : Lk) (w : World) (h : LkOk w l) (h1 : l.lose.length ≤ 1000) :
    Calls Try.prog 30 #[lkV l] w fun e w' => e = .returned (.bool (lostL l.val)) ∧ Below w.heap.size w w' := by
  have hln := Lib.hid h.la.len
  obtain ⟨now, delay, cut, count, lA, ln, lc, lose, bA, bn, bc, box⟩ := l
  simp only [lkV, Lk.val] at *
  have hln1 : ln ≤ 1000 := by have := hln.out; omega
  replace h := Lib.hid h
  have hR : Hid (lostL ⟨now, delay, cut, count, lose, box.map Pk.val⟩ = (cut || lose.contains count)) := rfl
  have px := Lib.hid (Blk.new w 25 #[Value.int .i64 now, Value.int .i64 delay, Value.bool cut, Value.int .i64 count, Value.slice lA ln lc, Value.slice bA bn bc])
  have hb0 := Lib.hid (a1 w (.cells #[Value.int .i64 now, Value.int .i64 delay, Value.bool cut, Value.int .i64 count, Value.slice lA ln lc, Value.slice bA bn bc] 25))
  go_enter Try.func30, Try.ntmps30
  go_wp2_with fail
  go_loopw [3] (fun i wr => ∃ k : Nat, k ≤ ln ∧ i = .int .i64 k ∧ Hid (Blk wr w.heap.size 25 #[Value.int .i64 now, Value.int .i64 delay, Value.bool cut, Value.int .i64 count, Value.slice lA ln lc, Value.slice bA bn bc]) ∧ Hid (Below w.heap.size w wr) ∧ Hid ((lose.take k).contains count = false)) (fun i _ => ln - (intOf i).toNat)
  case atStart => exact ⟨0, Nat.zero_le _, rfl, px.out, hb0.out, by show _ = _; simp⟩
  case round =>
    obtain ⟨k, hkn, rfl, hB, hb, hx⟩ := hrel
    obtain ⟨k0, k1, k2, k3, k4, k5⟩ := (show wr.cell? ⟨w.heap.size, 0, none⟩ = some (Value.int .i64 now) ∧ wr.cell? ⟨w.heap.size, 1, none⟩ = some (Value.int .i64 delay) ∧ wr.cell? ⟨w.heap.size, 2, none⟩ = some (Value.bool cut) ∧ wr.cell? ⟨w.heap.size, 3, none⟩ = some (Value.int .i64 count) ∧ wr.cell? ⟨w.heap.size, 4, none⟩ = some (Value.slice lA ln lc) ∧ wr.cell? ⟨w.heap.size, 5, none⟩ = some (Value.slice bA bn bc) from ⟨hB.out.cell 0, hB.out.cell 1, hB.out.cell 2, hB.out.cell 3, hB.out.cell 4, hB.out.cell 5⟩)
    by_cases hlt : k < ln
    · have hkl : k < lose.length := by have := hln.out; omega
      have hk0 : (0 : Int) ≤ k := by omega
      have hk1 : (k : Int) < ln := by omega
      obtain ⟨ad, hA, hbl, e0⟩ := i_cell (h.out.la.below hb.out (Nat.le_refl _)) hlt
      (try simp only at hA e0)
      have hst : Hid ((lose.take (k + 1)).contains count = ((lose.take k).contains count || (lose[k] == count))) := by show _ = _; rw [List.take_succ_eq_append_getElem hkl]; exact contains_snoc _ _ _
      have hin : Hid (lose[k] = count → lose.contains count = true) := fun e => by rw [← e]; simp
      generalize lose[k] = x at *
      subst hA
      by_cases q : x = count
      · have qd : (x == count) = true := by simpa using q
        have hF : Hid ((cut || lose.contains count) = true) := by show _ = _; rw [hin.out q]; simp
        replace q := Lib.hid q
        go_wp2_with fail
        go_quiet (fail)
        go_wp2_with fail
        go_ret
        exact ⟨by rw [hR.out, hF.out]; rfl, below_drewN hb.out _⟩
      · have qd : (x == count) = false := by simpa using q
        have hF : Hid ((lose.take (k + 1)).contains count = false) := by show _ = _; rw [hst.out, hx.out, qd]; rfl
        go_wp2_with fail
        go_quiet (fail)
        go_wp2_with fail
        go_roundw
        case rel => exact ⟨k + 1, by omega, by go_num, hB.out.drewN _, below_drewN hb.out _, hF.out⟩
        case measure => simp [intOf]; omega
    · have hF : Hid (lose.contains count = false) := by
        have := hx.out
        rwa [List.take_of_length_le (by have := hln.out; omega)] at this
      go_wp2_with fail
      go_ret
      exact ⟨by rw [hR.out, hF.out]; simp, hb.out⟩
def F20a (g0 base : Nat) (A : Option Addr) (c : Nat) (now delay : Int) (ds : List UInt8) : Tmp → Value → World → Prop
  | 1, v, _ => v = .slice A ds.length c
  | 2, v, _ => v = .pointer (some ⟨g0, 0, none⟩)
  | 6, v, w => NewB base 29 #[Value.int .i64 0, Value.slice none 0 0] v w
  | 24, v, _ => v = .pointer (some ⟨g0, 0, none⟩)
  | 25, v, _ => v = .int .i64 now
  | 26, v, _ => v = .pointer (some ⟨g0, 1, none⟩)
  | 27, v, _ => v = .int .i64 delay
  | 28, v, _ => v = .int .i64 (now + delay)
  | 29, v, w => E0 5 base v w
  | 30, v, _ => v = .slice A ds.length c
  | 31, v, w => BOwn w base v ds
  | 32, v, w => PkV base (now + delay) ds v w
  | _, _, _ => True
theorem F20a_more {g0 base : Nat} {A : Option Addr} {c : Nat} {now delay : Int} {ds : List UInt8} (d t : Tmp) (v : Value) (w w' : World) (hR : Rb w w') (hne : t ≠ d) (hc : ([] : List (Tmp × Tmp)).contains (d, t) = false) (h : F20a g0 base A c now delay ds t v w) : F20a g0 base A c now delay ds t v w' := by
  unfold F20a at *
  split at h <;> first | exact h | exact E0.more h hR | exact fun hg => E0.more (h hg) hR | exact LOwn.kept h hR | exact fun hg => LOwn.kept (h hg) hR | exact PkV.more h hR | exact fun hg => PkV.more (h hg) hR | exact NewB.more h hR | exact fun hg => NewB.more (h hg) hR
def F20b (g0 gp base : Nat) (A A' : Option Addr) (n c c' : Nat) (due : Int) (ds : List UInt8) (box : List Pk) : Tmp → Value → World → Prop
  | 2, v, _ => v = .pointer (some ⟨g0, 0, none⟩)
  | 6, v, _ => v = .pointer (some ⟨gp, 0, none⟩)
  | 33, v, w => E0 29 base v w
  | 34, v, _ => v = .pointer (some ⟨g0, 5, none⟩)
  | 35, v, _ => v = .slice A n c
  | 36, v, w => LOwn pkC 2 29 w base v box
  | 37, v, _ => v = .agg #[Value.int .i64 due, Value.slice A' ds.length c']
  | 38, v, w => Lit1 base #[Value.int .i64 due, Value.slice A' ds.length c'] v w
  | 39, v, w => LOwn pkC 2 29 w base v (box ++ [(⟨due, A', ds.length, c', ds⟩ : Pk)])
  | 40, v, _ => v = .pointer (some ⟨g0, 5, none⟩)
  | _, _, _ => True
def R20b (base : Nat) (d : Tmp) (w w' : World) : Prop := if d = 39 then w.heap.size ≤ w'.heap.size ∧ ∀ b, base ≤ b → w.heap[b]? = some (.cells #[] 29) → w'.heap[b]? = w.heap[b]? else Below w.heap.size w w'
theorem F20b_more {g0 gp base : Nat} {A A' : Option Addr} {n c c' : Nat} {due : Int} {ds : List UInt8} {box : List Pk} (dd t : Tmp) (v : Value) (w w' : World) (hR : R20b base dd w w') (hne : t ≠ dd) (hc : [((39 : Nat), (36 : Nat)), ((39 : Nat), (38 : Nat))].contains (dd, t) = false) (h : F20b g0 gp base A A' n c c' due ds box t v w) : F20b g0 gp base A A' n c c' due ds box t v w' := by
  unfold R20b at hR
  by_cases hd : dd = 39
  · subst hd
    rw [if_pos rfl] at hR
    unfold F20b at *
    split at h <;> first
      | exact h
      | exact absurd rfl hne
      | exact absurd hc (by decide)
      | (obtain ⟨g, e, hb, hk⟩ := h; exact ⟨g, e, hb, (hR.2 g hb hk).trans hk⟩)
  · rw [if_neg hd] at hR
    unfold F20b at *
    split at h <;> first | exact h | exact E0.more h hR | exact LOwn.kept h hR | exact Lit1.more h hR
theorem bgB {w w' : World} {base g : Nat} {v : Value} {l : List UInt8} {cs : Array Value} (h : BOwn w base v l) (hB : Blk w g 29 cs) (hg : w.grownBy w' (some g)) : BOwn w' base v l := h.grownB hB (by decide) hg
set_option maxRecDepth 100000 in
set_option maxHeartbeats 8000000 in
theorem rsend_any (l : Lk) (A : Option Addr) (n c : Nat) (d : List UInt8) (w : World) (h : LkOk w l) (hs : LkSm l) (hd : BAt w w.heap.size A n d) (hnc : n ≤ c ∧ c ≤ maxLen) (hnd : 0 ≤ l.now ∧ l.now ≤ 268435456 ∧ 1 ≤ l.delay ∧ l.delay ≤ 60 ∧ 0 ≤ l.count) :
    Calls Try.prog 20 #[lkV l, .slice A n c] w fun e w' => SendRes w.heap.size l w' (sendL l.val d) e ∧ Below w.heap.size w w' := by
  have hdl := Lib.hid hd.len
  have hbn := Lib.hid h.ba.len
  have hln := Lib.hid h.la.len
  obtain ⟨now, delay, cut, count, lA, ln, lc, lose, bA, bn, bc, box⟩ := l
  have hs0 := Lib.hid hs
  obtain ⟨s1, s2, s3⟩ := hs
  obtain ⟨n1, n2, n3, n4, n5⟩ := hnd
  simp only [lkV, Lk.val] at *
  have hbn1 : bn ≤ 1000 := by have := hbn.out; omega
  have hln1 : ln ≤ 1000 := by have := hln.out; omega
  have hcr := h.ii.2.2
  unfold i64In at hcr
  obtain ⟨hcr1, hcr2⟩ := hcr
  simp only at hcr1 hcr2
  replace h := Lib.hid h
  replace s3 := Lib.hid s3
  replace hd := Lib.hid hd
  have hX0 := Lib.hid ((Blk.new w 25 #[Value.int .i64 now, Value.int .i64 delay, Value.bool cut, Value.int .i64 count, Value.slice lA ln lc, Value.slice bA bn bc]).alloc (.cells #[Value.int .i64 0, Value.int .i64 0, Value.bool false, Value.int .i64 0, Value.slice none 0 0, Value.slice none 0 0] 25))
  have hZ0 := Lib.hid (Blk.new (w.alloc (.cells #[Value.int .i64 now, Value.int .i64 delay, Value.bool cut, Value.int .i64 count, Value.slice lA ln lc, Value.slice bA bn bc] 25)) 25 #[Value.int .i64 0, Value.int .i64 0, Value.bool false, Value.int .i64 0, Value.slice none 0 0, Value.slice none 0 0])
  have hb0 : Hid (Below w.heap.size w ((w.alloc (.cells #[Value.int .i64 now, Value.int .i64 delay, Value.bool cut, Value.int .i64 count, Value.slice lA ln lc, Value.slice bA bn bc] 25)).alloc (.cells #[Value.int .i64 0, Value.int .i64 0, Value.bool false, Value.int .i64 0, Value.slice none 0 0, Value.slice none 0 0] 25))) := (a1 w _).alloc (by simp) _
  rw [show (w.alloc (.cells #[Value.int .i64 now, Value.int .i64 delay, Value.bool cut, Value.int .i64 count, Value.slice lA ln lc, Value.slice bA bn bc] 25)).heap.size = w.heap.size + 1 by simp] at hZ0
  obtain ⟨k0, k1, k2, k3, k4, k5⟩ := (show ((w.alloc (.cells #[Value.int .i64 now, Value.int .i64 delay, Value.bool cut, Value.int .i64 count, Value.slice lA ln lc, Value.slice bA bn bc] 25)).alloc (.cells #[Value.int .i64 0, Value.int .i64 0, Value.bool false, Value.int .i64 0, Value.slice none 0 0, Value.slice none 0 0] 25)).cell? ⟨w.heap.size, 0, none⟩ = some (Value.int .i64 now) ∧ ((w.alloc (.cells #[Value.int .i64 now, Value.int .i64 delay, Value.bool cut, Value.int .i64 count, Value.slice lA ln lc, Value.slice bA bn bc] 25)).alloc (.cells #[Value.int .i64 0, Value.int .i64 0, Value.bool false, Value.int .i64 0, Value.slice none 0 0, Value.slice none 0 0] 25)).cell? ⟨w.heap.size, 1, none⟩ = some (Value.int .i64 delay) ∧ ((w.alloc (.cells #[Value.int .i64 now, Value.int .i64 delay, Value.bool cut, Value.int .i64 count, Value.slice lA ln lc, Value.slice bA bn bc] 25)).alloc (.cells #[Value.int .i64 0, Value.int .i64 0, Value.bool false, Value.int .i64 0, Value.slice none 0 0, Value.slice none 0 0] 25)).cell? ⟨w.heap.size, 2, none⟩ = some (Value.bool cut) ∧ ((w.alloc (.cells #[Value.int .i64 now, Value.int .i64 delay, Value.bool cut, Value.int .i64 count, Value.slice lA ln lc, Value.slice bA bn bc] 25)).alloc (.cells #[Value.int .i64 0, Value.int .i64 0, Value.bool false, Value.int .i64 0, Value.slice none 0 0, Value.slice none 0 0] 25)).cell? ⟨w.heap.size, 3, none⟩ = some (Value.int .i64 count) ∧ ((w.alloc (.cells #[Value.int .i64 now, Value.int .i64 delay, Value.bool cut, Value.int .i64 count, Value.slice lA ln lc, Value.slice bA bn bc] 25)).alloc (.cells #[Value.int .i64 0, Value.int .i64 0, Value.bool false, Value.int .i64 0, Value.slice none 0 0, Value.slice none 0 0] 25)).cell? ⟨w.heap.size, 4, none⟩ = some (Value.slice lA ln lc) ∧ ((w.alloc (.cells #[Value.int .i64 now, Value.int .i64 delay, Value.bool cut, Value.int .i64 count, Value.slice lA ln lc, Value.slice bA bn bc] 25)).alloc (.cells #[Value.int .i64 0, Value.int .i64 0, Value.bool false, Value.int .i64 0, Value.slice none 0 0, Value.slice none 0 0] 25)).cell? ⟨w.heap.size, 5, none⟩ = some (Value.slice bA bn bc) from ⟨hX0.out.cell 0, hX0.out.cell 1, hX0.out.cell 2, hX0.out.cell 3, hX0.out.cell 4, hX0.out.cell 5⟩)
  by_cases q1 : 8198 < n
  · have q1i : (8198 : Int) < (n : Int) := by omega
    have q1d : decide ((8198 : Int) < (n : Int)) = true := by simp; omega
    have hF := Lib.hid (send_long ⟨now, delay, cut, count, lose, box.map Pk.val⟩ d (.inl (by rw [hdl.out]; exact q1)))
    go_enter Try.func20, Try.ntmps20
    go_wp2_with fail
    (try simp only [Exit.inBlock, Exit.then])
    have hB := Blk.new (w.alloc (.cells #[Value.int .i64 now, Value.int .i64 delay, Value.bool cut, Value.int .i64 count, Value.slice lA ln lc, Value.slice bA bn bc] 25)) 25 #[Value.int .i64 now, Value.int .i64 delay, Value.bool cut, Value.int .i64 count, Value.slice lA ln lc, Value.slice bA bn bc]
    rw [show (w.alloc (.cells #[Value.int .i64 now, Value.int .i64 delay, Value.bool cut, Value.int .i64 count, Value.slice lA ln lc, Value.slice bA bn bc] 25)).heap.size = w.heap.size + 1 by simp] at hB
    have hbF : Below w.heap.size w ((w.alloc (.cells #[Value.int .i64 now, Value.int .i64 delay, Value.bool cut, Value.int .i64 count, Value.slice lA ln lc, Value.slice bA bn bc] 25)).alloc (.cells #[Value.int .i64 now, Value.int .i64 delay, Value.bool cut, Value.int .i64 count, Value.slice lA ln lc, Value.slice bA bn bc] 25)) := (a1 w _).alloc (by simp) _
    refine bodyPost_ret (v := .tuple #[.agg #[Value.int .i64 now, Value.int .i64 delay, Value.bool cut, Value.int .i64 count, Value.slice lA ln lc, Value.slice bA bn bc], .int .i64 3]) ?_ rfl ?_
    · refine (res2 (fn := Try.f20) (p := 4) (u := 5) (ty := 25) rfl _ _ (w.heap.size + 1) 25 _ (0, 0) _ ?_ hB Try.underlying25 rfl (by kernel_rfl)).trans ?_
      · rfl
      · rfl
    clear hB
    exact ⟨⟨⟨now, delay, cut, count, lA, ln, lc, lose, bA, bn, bc, box⟩, by rw [hF.out]; rfl, h.out.more hbF, by rw [hF.out]; rfl, fun Q hQ _ => hQ⟩, hbF⟩
  have q1i : ¬ (8198 : Int) < (n : Int) := by omega
  have q1d : decide ((8198 : Int) < (n : Int)) = false := by simp; omega
  by_cases q2 : 2147483647 ≤ count
  · have q2d : decide (2147483647 ≤ count) = true := by simpa using q2
    have hF := Lib.hid (send_long ⟨now, delay, cut, count, lose, box.map Pk.val⟩ d (.inr q2))
    go_enter Try.func20, Try.ntmps20
    go_wp2_with fail
    (try simp only [Exit.inBlock, Exit.then])
    have hB := Blk.new (w.alloc (.cells #[Value.int .i64 now, Value.int .i64 delay, Value.bool cut, Value.int .i64 count, Value.slice lA ln lc, Value.slice bA bn bc] 25)) 25 #[Value.int .i64 now, Value.int .i64 delay, Value.bool cut, Value.int .i64 count, Value.slice lA ln lc, Value.slice bA bn bc]
    rw [show (w.alloc (.cells #[Value.int .i64 now, Value.int .i64 delay, Value.bool cut, Value.int .i64 count, Value.slice lA ln lc, Value.slice bA bn bc] 25)).heap.size = w.heap.size + 1 by simp] at hB
    have hbF : Below w.heap.size w ((w.alloc (.cells #[Value.int .i64 now, Value.int .i64 delay, Value.bool cut, Value.int .i64 count, Value.slice lA ln lc, Value.slice bA bn bc] 25)).alloc (.cells #[Value.int .i64 now, Value.int .i64 delay, Value.bool cut, Value.int .i64 count, Value.slice lA ln lc, Value.slice bA bn bc] 25)) := (a1 w _).alloc (by simp) _
    refine bodyPost_ret (v := .tuple #[.agg #[Value.int .i64 now, Value.int .i64 delay, Value.bool cut, Value.int .i64 count, Value.slice lA ln lc, Value.slice bA bn bc], .int .i64 3]) ?_ rfl ?_
    · refine (res2 (fn := Try.f20) (p := 4) (u := 5) (ty := 25) rfl _ _ (w.heap.size + 1) 25 _ (0, 0) _ ?_ hB Try.underlying25 rfl (by kernel_rfl)).trans ?_
      · rfl
      · rfl
    clear hB
    exact ⟨⟨⟨now, delay, cut, count, lA, ln, lc, lose, bA, bn, bc, box⟩, by rw [hF.out]; rfl, h.out.more hbF, by rw [hF.out]; rfl, fun Q hQ _ => hQ⟩, hbF⟩
  have q2d : decide (2147483647 ≤ count) = false := by simpa using q2
  have hno : Hid (¬ (8198 < d.length ∨ 2147483647 ≤ count)) := by show ¬ _; rw [hdl.out]; omega
  have hcw : IntKind.i64.wrap (count + 1) = count + 1 := IntWalk.i64_in _ (by omega)
  have hlo := Lib.hid (fun w2 (hb : Below w.heap.size w w2) => lost_any ⟨now, delay, cut, count, lA, ln, lc, lose, bA, bn, bc, box⟩ w2 (h.out.more hb) s1)
  simp only [lkV, Lk.val] at hlo
  go_enter Try.func20, Try.ntmps20
  go_wp2_with fail
  clear k0 k1 k2 k3 k4 k5
  generalize ((w.alloc (.cells #[Value.int .i64 now, Value.int .i64 delay, Value.bool cut, Value.int .i64 count, Value.slice lA ln lc, Value.slice bA bn bc] 25)).alloc (.cells #[Value.int .i64 0, Value.int .i64 0, Value.bool false, Value.int .i64 0, Value.slice none 0 0, Value.slice none 0 0] 25)) = w1 at *
  refine (hlo.out w1 hb0.out).mono ?_; rintro e wB ⟨rfl, hbq⟩
  have hXB := Lib.hid (hX0.out.below hbq hX0.out.lt)
  have hZB := Lib.hid (hZ0.out.below hbq hZ0.out.lt)
  have hb := Lib.hid (hb0.out.trans (hbq.mono hb0.out.size))
  clear hbq hX0 hZ0 hb0 hlo
  obtain ⟨k0, k1, k2, k3, k4, k5, y0, y1, y2, y3, y4, y5⟩ := (show wB.cell? ⟨w.heap.size, 0, none⟩ = some (Value.int .i64 now) ∧ wB.cell? ⟨w.heap.size, 1, none⟩ = some (Value.int .i64 delay) ∧ wB.cell? ⟨w.heap.size, 2, none⟩ = some (Value.bool cut) ∧ wB.cell? ⟨w.heap.size, 3, none⟩ = some (Value.int .i64 count) ∧ wB.cell? ⟨w.heap.size, 4, none⟩ = some (Value.slice lA ln lc) ∧ wB.cell? ⟨w.heap.size, 5, none⟩ = some (Value.slice bA bn bc) ∧ wB.frozen? ⟨w.heap.size, 0, none⟩ = false ∧ wB.frozen? ⟨w.heap.size, 1, none⟩ = false ∧ wB.frozen? ⟨w.heap.size, 2, none⟩ = false ∧ wB.frozen? ⟨w.heap.size, 3, none⟩ = false ∧ wB.frozen? ⟨w.heap.size, 4, none⟩ = false ∧ wB.frozen? ⟨w.heap.size, 5, none⟩ = false from ⟨hXB.out.cell 0, hXB.out.cell 1, hXB.out.cell 2, hXB.out.cell 3, hXB.out.cell 4, hXB.out.cell 5, hXB.out.frozen 0, hXB.out.frozen 1, hXB.out.frozen 2, hXB.out.frozen 3, hXB.out.frozen 4, hXB.out.frozen 5⟩)
  obtain ⟨u0, u1, u2, u3, u4, u5, z0, z1, z2, z3, z4, z5⟩ := (show wB.cell? ⟨(w.heap.size + 1), 0, none⟩ = some (Value.int .i64 0) ∧ wB.cell? ⟨(w.heap.size + 1), 1, none⟩ = some (Value.int .i64 0) ∧ wB.cell? ⟨(w.heap.size + 1), 2, none⟩ = some (Value.bool false) ∧ wB.cell? ⟨(w.heap.size + 1), 3, none⟩ = some (Value.int .i64 0) ∧ wB.cell? ⟨(w.heap.size + 1), 4, none⟩ = some (Value.slice none 0 0) ∧ wB.cell? ⟨(w.heap.size + 1), 5, none⟩ = some (Value.slice none 0 0) ∧ wB.frozen? ⟨(w.heap.size + 1), 0, none⟩ = false ∧ wB.frozen? ⟨(w.heap.size + 1), 1, none⟩ = false ∧ wB.frozen? ⟨(w.heap.size + 1), 2, none⟩ = false ∧ wB.frozen? ⟨(w.heap.size + 1), 3, none⟩ = false ∧ wB.frozen? ⟨(w.heap.size + 1), 4, none⟩ = false ∧ wB.frozen? ⟨(w.heap.size + 1), 5, none⟩ = false from ⟨hZB.out.cell 0, hZB.out.cell 1, hZB.out.cell 2, hZB.out.cell 3, hZB.out.cell 4, hZB.out.cell 5, hZB.out.frozen 0, hZB.out.frozen 1, hZB.out.frozen 2, hZB.out.frozen 3, hZB.out.frozen 4, hZB.out.frozen 5⟩)
  cases hlv : lostL ⟨now, delay, cut, count, lose, box.map Pk.val⟩ with
  | true =>
    have hF := Lib.hid (send_lost ⟨now, delay, cut, count, lose, box.map Pk.val⟩ d hno.out hlv)
    replace hlv := Lib.hid hlv
    have hX2 : Hid (Blk (wB.setCell ⟨w.heap.size, 3, none⟩ (Value.int .i64 (count + 1))) w.heap.size 25 #[Value.int .i64 now, Value.int .i64 delay, Value.bool cut, Value.int .i64 (count + 1), Value.slice lA ln lc, Value.slice bA bn bc]) := hXB.out.set_ 3 _
    have hZ2 : Hid (Blk (wB.setCell ⟨w.heap.size, 3, none⟩ (Value.int .i64 (count + 1))) (w.heap.size + 1) 25 #[Value.int .i64 0, Value.int .i64 0, Value.bool false, Value.int .i64 0, Value.slice none 0 0, Value.slice none 0 0]) := hZB.out.far (p := ⟨w.heap.size, 3, none⟩) (by simp) _
    have hbs := Lib.hid (below_set hb.out (Nat.le_refl _) 3 (Value.int .i64 (count + 1)))
    obtain ⟨m0, m1, m2, m3, m4, m5⟩ := (show (wB.setCell ⟨w.heap.size, 3, none⟩ (Value.int .i64 (count + 1))).cell? ⟨w.heap.size, 0, none⟩ = some (Value.int .i64 now) ∧ (wB.setCell ⟨w.heap.size, 3, none⟩ (Value.int .i64 (count + 1))).cell? ⟨w.heap.size, 1, none⟩ = some (Value.int .i64 delay) ∧ (wB.setCell ⟨w.heap.size, 3, none⟩ (Value.int .i64 (count + 1))).cell? ⟨w.heap.size, 2, none⟩ = some (Value.bool cut) ∧ (wB.setCell ⟨w.heap.size, 3, none⟩ (Value.int .i64 (count + 1))).cell? ⟨w.heap.size, 3, none⟩ = some (Value.int .i64 (count + 1)) ∧ (wB.setCell ⟨w.heap.size, 3, none⟩ (Value.int .i64 (count + 1))).cell? ⟨w.heap.size, 4, none⟩ = some (Value.slice lA ln lc) ∧ (wB.setCell ⟨w.heap.size, 3, none⟩ (Value.int .i64 (count + 1))).cell? ⟨w.heap.size, 5, none⟩ = some (Value.slice bA bn bc) from ⟨hX2.out.cell 0, hX2.out.cell 1, hX2.out.cell 2, hX2.out.cell 3, hX2.out.cell 4, hX2.out.cell 5⟩)
    obtain ⟨r0, r1, r2, r3, r4, r5, s0, s1, s2, s3, s4, s5⟩ := (show (wB.setCell ⟨w.heap.size, 3, none⟩ (Value.int .i64 (count + 1))).cell? ⟨(w.heap.size + 1), 0, none⟩ = some (Value.int .i64 0) ∧ (wB.setCell ⟨w.heap.size, 3, none⟩ (Value.int .i64 (count + 1))).cell? ⟨(w.heap.size + 1), 1, none⟩ = some (Value.int .i64 0) ∧ (wB.setCell ⟨w.heap.size, 3, none⟩ (Value.int .i64 (count + 1))).cell? ⟨(w.heap.size + 1), 2, none⟩ = some (Value.bool false) ∧ (wB.setCell ⟨w.heap.size, 3, none⟩ (Value.int .i64 (count + 1))).cell? ⟨(w.heap.size + 1), 3, none⟩ = some (Value.int .i64 0) ∧ (wB.setCell ⟨w.heap.size, 3, none⟩ (Value.int .i64 (count + 1))).cell? ⟨(w.heap.size + 1), 4, none⟩ = some (Value.slice none 0 0) ∧ (wB.setCell ⟨w.heap.size, 3, none⟩ (Value.int .i64 (count + 1))).cell? ⟨(w.heap.size + 1), 5, none⟩ = some (Value.slice none 0 0) ∧ (wB.setCell ⟨w.heap.size, 3, none⟩ (Value.int .i64 (count + 1))).frozen? ⟨(w.heap.size + 1), 0, none⟩ = false ∧ (wB.setCell ⟨w.heap.size, 3, none⟩ (Value.int .i64 (count + 1))).frozen? ⟨(w.heap.size + 1), 1, none⟩ = false ∧ (wB.setCell ⟨w.heap.size, 3, none⟩ (Value.int .i64 (count + 1))).frozen? ⟨(w.heap.size + 1), 2, none⟩ = false ∧ (wB.setCell ⟨w.heap.size, 3, none⟩ (Value.int .i64 (count + 1))).frozen? ⟨(w.heap.size + 1), 3, none⟩ = false ∧ (wB.setCell ⟨w.heap.size, 3, none⟩ (Value.int .i64 (count + 1))).frozen? ⟨(w.heap.size + 1), 4, none⟩ = false ∧ (wB.setCell ⟨w.heap.size, 3, none⟩ (Value.int .i64 (count + 1))).frozen? ⟨(w.heap.size + 1), 5, none⟩ = false from ⟨hZ2.out.cell 0, hZ2.out.cell 1, hZ2.out.cell 2, hZ2.out.cell 3, hZ2.out.cell 4, hZ2.out.cell 5, hZ2.out.frozen 0, hZ2.out.frozen 1, hZ2.out.frozen 2, hZ2.out.frozen 3, hZ2.out.frozen 4, hZ2.out.frozen 5⟩)
    go_wp2_with fail
    clear k0 k1 k2 k3 k4 k5 y0 y1 y2 y3 y4 y5 u0 u1 u2 u3 u4 u5 z0 z1 z2 z3 z4 z5 m0 m1 m2 m3 m4 m5 r0 r1 r2 r3 r4 r5 s0 s1 s2 s3 s4 s5 hXB hZB hb
    generalize wB.setCell ⟨w.heap.size, 3, none⟩ (Value.int .i64 (count + 1)) = ws at *
    (try simp only [Exit.inBlock, Exit.then])
    have hB := lk_set6 hZ2.out (Value.int .i64 now) (Value.int .i64 delay) (Value.bool cut) (Value.int .i64 (count + 1)) (Value.slice lA ln lc) (Value.slice bA bn bc)
    have hbF := below_set6 hbs.out (Nat.le_succ _) (Value.int .i64 now) (Value.int .i64 delay) (Value.bool cut) (Value.int .i64 (count + 1)) (Value.slice lA ln lc) (Value.slice bA bn bc)
    have hgF := grown_set6 (ws) (w.heap.size + 1) (Value.int .i64 now) (Value.int .i64 delay) (Value.bool cut) (Value.int .i64 (count + 1)) (Value.slice lA ln lc) (Value.slice bA bn bc)
    refine bodyPost_ret (v := .tuple #[.agg #[Value.int .i64 now, Value.int .i64 delay, Value.bool cut, Value.int .i64 (count + 1), Value.slice lA ln lc, Value.slice bA bn bc], .int .i64 0]) ?_ rfl ?_
    · refine (res2 (fn := Try.f20) (p := 4) (u := 5) (ty := 25) rfl _ _ (w.heap.size + 1) 25 _ (0, 0) _ ?_ hB Try.underlying25 rfl (by kernel_rfl)).trans ?_
      · rfl
      · rfl
    clear hB
    generalize (((((((ws).setCell ⟨(w.heap.size + 1), 0, none⟩ (Value.int .i64 now)).setCell ⟨(w.heap.size + 1), 1, none⟩ (Value.int .i64 delay)).setCell ⟨(w.heap.size + 1), 2, none⟩ (Value.bool cut)).setCell ⟨(w.heap.size + 1), 3, none⟩ (Value.int .i64 (count + 1))).setCell ⟨(w.heap.size + 1), 4, none⟩ (Value.slice lA ln lc)).setCell ⟨(w.heap.size + 1), 5, none⟩ (Value.slice bA bn bc)) = wF at *
    have hb9 := h.out.more hbF
    exact ⟨⟨⟨now, delay, cut, count + 1, lA, ln, lc, lose, bA, bn, bc, box⟩, by rw [hF.out]; rfl, ⟨hb9.la, hb9.lb, hb9.li, hb9.ba, hb9.bb, hb9.bd, ⟨hb9.ii.1, hb9.ii.2.1, by simp only [i64In]; omega⟩⟩, by rw [hF.out]; rfl, fun Q hQ _ => hQ⟩, hbF⟩
  | false =>
    by_cases q3 : 256 ≤ bn
    · have q3i : (256 : Int) ≤ (bn : Int) := by omega
      have hF := Lib.hid (send_full ⟨now, delay, cut, count, lose, box.map Pk.val⟩ d hno.out hlv (by show 256 ≤ (box.map Pk.val).length; rw [List.length_map, hbn.out]; exact q3))
      replace hlv := Lib.hid hlv
      go_wp2_with fail
      clear k0 k1 k2 k3 k4 k5 y0 y1 y2 y3 y4 y5 u0 u1 u2 u3 u4 u5 z0 z1 z2 z3 z4 z5
      (try simp only [Exit.inBlock, Exit.then])
      have hB := lk_set6 hZB.out (Value.int .i64 now) (Value.int .i64 delay) (Value.bool cut) (Value.int .i64 count) (Value.slice lA ln lc) (Value.slice bA bn bc)
      have hbF := below_set6 hb.out (Nat.le_succ _) (Value.int .i64 now) (Value.int .i64 delay) (Value.bool cut) (Value.int .i64 count) (Value.slice lA ln lc) (Value.slice bA bn bc)
      have hgF := grown_set6 (wB) (w.heap.size + 1) (Value.int .i64 now) (Value.int .i64 delay) (Value.bool cut) (Value.int .i64 count) (Value.slice lA ln lc) (Value.slice bA bn bc)
      refine bodyPost_ret (v := .tuple #[.agg #[Value.int .i64 now, Value.int .i64 delay, Value.bool cut, Value.int .i64 count, Value.slice lA ln lc, Value.slice bA bn bc], .int .i64 3]) ?_ rfl ?_
      · refine (res2 (fn := Try.f20) (p := 4) (u := 5) (ty := 25) rfl _ _ (w.heap.size + 1) 25 _ (0, 0) _ ?_ hB Try.underlying25 rfl (by kernel_rfl)).trans ?_
        · rfl
        · rfl
      clear hB
      generalize (((((((wB).setCell ⟨(w.heap.size + 1), 0, none⟩ (Value.int .i64 now)).setCell ⟨(w.heap.size + 1), 1, none⟩ (Value.int .i64 delay)).setCell ⟨(w.heap.size + 1), 2, none⟩ (Value.bool cut)).setCell ⟨(w.heap.size + 1), 3, none⟩ (Value.int .i64 count)).setCell ⟨(w.heap.size + 1), 4, none⟩ (Value.slice lA ln lc)).setCell ⟨(w.heap.size + 1), 5, none⟩ (Value.slice bA bn bc)) = wF at *
      exact ⟨⟨⟨now, delay, cut, count, lA, ln, lc, lose, bA, bn, bc, box⟩, by rw [hF.out]; rfl, h.out.more hbF, by rw [hF.out]; rfl, fun Q hQ _ => hQ⟩, hbF⟩
    · have q3i : ¬ (256 : Int) ≤ (bn : Int) := by omega
      have hF := Lib.hid (send_go ⟨now, delay, cut, count, lose, box.map Pk.val⟩ d hno.out hlv (by show ¬ 256 ≤ (box.map Pk.val).length; rw [List.length_map, hbn.out]; exact q3))
      replace hlv := Lib.hid hlv
      obtain ⟨ip, hip, hzp0, hzp1, hzp2⟩ := info_parts pk_info
      obtain ⟨is, his, hzs0, hzs1, hzs2⟩ := info_parts bs_info
      replace hip := Lib.hid hip
      replace hzp0 := Lib.hid hzp0
      replace hzp1 := Lib.hid hzp1
      replace hzp2 := Lib.hid hzp2
      replace his := Lib.hid his
      replace hzs0 := Lib.hid hzs0
      replace hzs1 := Lib.hid hzs1
      replace hzs2 := Lib.hid hzs2
      obtain ⟨ib, hib, hzb0, hzb1, hzb2⟩ := info_parts byte_info
      replace hib := Lib.hid hib
      replace hzb0 := Lib.hid hzb0
      replace hzb1 := Lib.hid hzb1
      replace hzb2 := Lib.hid hzb2
      obtain rfl := hdl.out
      go_wp2_with fail
      clear k0 k1 k2 k3 k4 k5 y0 y1 y2 y3 y4 y5 u0 u1 u2 u3 u4 u5 z0 z1 z2 z3 z4 z5
      have hcell : Hid (∀ wz, Below wB.heap.size wB wz → wz.cell? ⟨w.heap.size, 0, none⟩ = some (Value.int .i64 now) ∧ wz.cell? ⟨w.heap.size, 1, none⟩ = some (Value.int .i64 delay)) := fun wz hz => by
        have q := hXB.out.below hz hXB.out.lt
        exact ⟨q.cell 0, q.cell 1⟩
      have hdB := Lib.hid (hd.out.more hb.out)
      have hd1 : d.length ≤ 8198 := by omega
      refine RT.region [] [] (F := F20a w.heap.size wB.heap.size A c now delay d) (W := fun wz => Below wB.heap.size wB wz) (R := fun _ => Rb) rfl F20a_more (by kernel_rfl) (by kernel_rfl) (by kernel_rfl) (by kernel_rfl) (by kernel_rfl) (by kernel_rfl) rfl rfl ?_ ?_ ?_ ?_
      · exact (Below.refl _ _).drew
      · intro t ht
        unfold F20a
        split <;> first | trivial | exact rfl | (exact absurd ht (by decide))
      · simp only [List.forall_mem_cons, List.not_mem_nil, false_implies, implies_true, and_true]
        refine ⟨?_, ?_, ?_, ?_, ?_, ?_, ?_, ?_, ?_, ?_, ?_⟩
        · intro a w2 hw _ hf K hK
          have f0 := hf 2 rfl
          simp only [F20a] at f0
          clear hf
          go_simp
          exact hK _ _ _ rfl rfl hw (Below.refl _ _) (fun h => absurd h (by decide))
        · intro a w2 hw _ hf K hK
          have f0 := hf 24 rfl
          simp only [F20a] at f0
          clear hf
          obtain ⟨k0, k1⟩ := hcell.out w2 hw
          go_simp
          exact hK _ _ _ rfl rfl hw (Below.refl _ _) (fun h => absurd h (by decide))
        · intro a w2 hw _ hf K hK
          have f0 := hf 2 rfl
          simp only [F20a] at f0
          clear hf
          go_simp
          exact hK _ _ _ rfl rfl hw (Below.refl _ _) (fun h => absurd h (by decide))
        · intro a w2 hw _ hf K hK
          have f0 := hf 26 rfl
          simp only [F20a] at f0
          clear hf
          obtain ⟨k0, k1⟩ := hcell.out w2 hw
          go_simp
          exact hK _ _ _ rfl rfl hw (Below.refl _ _) (fun h => absurd h (by decide))
        · intro a w2 hw _ hf K hK
          have f0 := hf 25 rfl
          have f1 := hf 27 rfl
          simp only [F20a] at f0 f1
          clear hf
          go_simp
          exact hK _ _ _ rfl (by show _ = _; rw [IntWalk.i64_in _ (by omega)]) hw (Below.refl _ _) (fun h => absurd h (by decide))
        · intro a w2 hw _ hf K hK
          clear hf
          go_simp
          exact hK _ _ _ rfl ⟨w2.heap.size, rfl, hw.size, Blk.new w2 5 #[]⟩ (below_new hw _) (a1 _ _) (fun h => absurd h (by decide))
        · intro a w2 hw _ hf K hK
          have f0 := hf 1 rfl
          simp only [F20a] at f0
          clear hf
          go_simp
          exact hK _ _ _ rfl rfl hw (Below.refl _ _) (fun h => absurd h (by decide))
        · intro a w2 hw _ hf K hK
          have f0 := hf 29 rfl
          have f1 := hf 30 rfl
          simp only [F20a] at f0 f1
          clear hf
          obtain ⟨g, e0, hbg, hbk⟩ := f0
          refine wp_append_kept w2 (.tmp 29) (.tmp 30) 27 rfl wB.heap.size 5 ib _ 1 1 Try.underlying27 hib.out hzb0.out hzb1.out hzb2.out rfl (by omega) (.slice (some ⟨g, 0, none⟩) 0 0) 0 [] ((eval_tmp a 29).trans e0) ⟨rfl, .inr ⟨g, 0, #[], rfl, hbg, hbk, Nat.le_refl _, Nat.zero_le _, rfl, rfl⟩⟩ w2.heap.size A d.length c (flat bC d) ((eval_tmp a 30).trans f1) (hdB.out.more hw).2 (bC_one _) (by simp only [maxLen]; omega) (by omega) hw.size ?_
          intro v' w' hown hg hkp
          have hbl : Below w2.heap.size w2 w' := by
            rcases hkp with h | ⟨g', cap', e, hc, h0⟩
            · exact h
            · injection e with _ _ ec; omega
          rw [Nat.zero_add, List.nil_append] at hown
          exact hK _ _ _ rfl ⟨bC_len, hown⟩ (hw.trans (hbl.mono hw.size)) hbl (fun h => absurd h (by decide))
        · intro a w2 hw _ hf K hK
          have f0 := hf 28 rfl
          have f1 := hf 31 rfl
          simp only [F20a] at f0 f1
          clear hf
          obtain ⟨A', c', hv, -, -, -, -⟩ := f1.form
          rw [hv] at f1
          have hf1 := Lib.hid f1
          clear f1
          go_simp
          exact hK _ _ _ rfl ⟨A', c', rfl, hf1.out⟩ hw (Below.refl _ _) (fun h => absurd h (by decide))
        · intro a w2 hw _ hf K hK
          clear hf
          go_simp
          exact hK _ _ _ rfl ⟨w2.heap.size, rfl, hw.size, Blk.new w2 29 _⟩ (below_new hw _) (a1 _ _) (fun h => absurd h (by decide))
        · trivial
      · intro a' w9 hd hs hw hout hf
        have h6 := hf 6 rfl
        simp only [F20a] at h6
        have h32 := hf 32 rfl
        simp only [F20a] at h32
        have e0 : _ = some (Value.agg #[Value.int .i64 now, Value.int .i64 delay, Value.bool cut, Value.int .i64 count, Value.slice lA ln lc, Value.slice bA bn bc]) := hout 0 rfl
        have e1 : _ = some (Value.slice A d.length c) := hout 1 rfl
        have e2 : _ = some (Value.pointer (some ⟨w.heap.size, 0, none⟩)) := hout 2 rfl
        have e4 : _ = some (Value.pointer (some ⟨w.heap.size + 1, 0, none⟩)) := hout 4 rfl
        have e5 : _ = some (Value.int .i64 0) := hout 5 rfl
        obtain ⟨tm, df⟩ := a'
        simp only at hd hs h6 h32 e0 e1 e2 e4 e5
        have e := lit_arr tm 46 hs
        rw [show (List.range 46).map (fun i => tm[i]?.getD undef) = [tm[0]?.getD undef, tm[1]?.getD undef, tm[2]?.getD undef, tm[3]?.getD undef, tm[4]?.getD undef, tm[5]?.getD undef, tm[6]?.getD undef, tm[7]?.getD undef, tm[8]?.getD undef, tm[9]?.getD undef, tm[10]?.getD undef, tm[11]?.getD undef, tm[12]?.getD undef, tm[13]?.getD undef, tm[14]?.getD undef, tm[15]?.getD undef, tm[16]?.getD undef, tm[17]?.getD undef, tm[18]?.getD undef, tm[19]?.getD undef, tm[20]?.getD undef, tm[21]?.getD undef, tm[22]?.getD undef, tm[23]?.getD undef, tm[24]?.getD undef, tm[25]?.getD undef, tm[26]?.getD undef, tm[27]?.getD undef, tm[28]?.getD undef, tm[29]?.getD undef, tm[30]?.getD undef, tm[31]?.getD undef, tm[32]?.getD undef, tm[33]?.getD undef, tm[34]?.getD undef, tm[35]?.getD undef, tm[36]?.getD undef, tm[37]?.getD undef, tm[38]?.getD undef, tm[39]?.getD undef, tm[40]?.getD undef, tm[41]?.getD undef, tm[42]?.getD undef, tm[43]?.getD undef, tm[44]?.getD undef, tm[45]?.getD undef] from rfl] at e
        simp only [e0, e1, e2, e4, e5, Option.getD_some] at e
        clear hf hout hs
        rw [e, hd]
        clear e hd e0 e1 e2 e4 e5
        generalize tm[3]?.getD undef = u3x
        generalize tm[6]?.getD undef = u6x at h6 ⊢
        generalize tm[7]?.getD undef = u7x
        generalize tm[8]?.getD undef = u8x
        generalize tm[9]?.getD undef = u9x
        generalize tm[10]?.getD undef = u10x
        generalize tm[11]?.getD undef = u11x
        generalize tm[12]?.getD undef = u12x
        generalize tm[13]?.getD undef = u13x
        generalize tm[14]?.getD undef = u14x
        generalize tm[15]?.getD undef = u15x
        generalize tm[16]?.getD undef = u16x
        generalize tm[17]?.getD undef = u17x
        generalize tm[18]?.getD undef = u18x
        generalize tm[19]?.getD undef = u19x
        generalize tm[20]?.getD undef = u20x
        generalize tm[21]?.getD undef = u21x
        generalize tm[22]?.getD undef = u22x
        generalize tm[23]?.getD undef = u23x
        generalize tm[24]?.getD undef = u24x
        generalize tm[25]?.getD undef = u25x
        generalize tm[26]?.getD undef = u26x
        generalize tm[27]?.getD undef = u27x
        generalize tm[28]?.getD undef = u28x
        generalize tm[29]?.getD undef = u29x
        generalize tm[30]?.getD undef = u30x
        generalize tm[31]?.getD undef = u31x
        generalize tm[32]?.getD undef = u32x at h32 ⊢
        generalize tm[33]?.getD undef = u33x
        generalize tm[34]?.getD undef = u34x
        generalize tm[35]?.getD undef = u35x
        generalize tm[36]?.getD undef = u36x
        generalize tm[37]?.getD undef = u37x
        generalize tm[38]?.getD undef = u38x
        generalize tm[39]?.getD undef = u39x
        generalize tm[40]?.getD undef = u40x
        generalize tm[41]?.getD undef = u41x
        generalize tm[42]?.getD undef = u42x
        generalize tm[43]?.getD undef = u43x
        generalize tm[44]?.getD undef = u44x
        generalize tm[45]?.getD undef = u45x
        obtain ⟨A', c', rfl, hD⟩ := h32
        obtain ⟨gp, rfl, hgp, hBp⟩ := h6
        have hwB1 := Lib.hid hb.out.size
        have hBp0 := Lib.hid hBp
        have hb := Lib.hid (hb.out.trans (hw.mono hb.out.size))
        obtain ⟨p0, p1, y0, y1⟩ := (show w9.cell? ⟨gp, 0, none⟩ = some (Value.int .i64 0) ∧ w9.cell? ⟨gp, 1, none⟩ = some (Value.slice none 0 0) ∧ w9.frozen? ⟨gp, 0, none⟩ = false ∧ w9.frozen? ⟨gp, 1, none⟩ = false from ⟨hBp.cell 0, hBp.cell 1, hBp.frozen 0, hBp.frozen 1⟩)
        have hBp := Lib.hid ((hBp.set_ 0 (Value.int .i64 (now + delay))).set_ 1 (Value.slice A' d.length c'))
        have hgw : Hid (wB.heap.size ≤ gp) := hgp
        have hX := Lib.hid (hXB.out.below hw hXB.out.lt)
        have hZ := Lib.hid (hZB.out.below hw hZB.out.lt)
        have hlt1 : Hid (w.heap.size + 1 < gp) := Nat.lt_of_lt_of_le hZB.out.lt hgp
        have hD := Lib.hid hD
        clear hw hcell hdB hXB hZB hgp
        go_simp
        have hgs : World.grownBy w9 ((w9.setCell ⟨gp, 0, none⟩ (Value.int .i64 (now + delay))).setCell ⟨gp, 1, none⟩ (Value.slice A' d.length c')) (some gp) := only_set (only_set (World.grownBy.refl _ _) 0 _) 1 _
        have hX := Lib.hid (hX.out.grown hgs (by intro e; injection e; have := hlt1.out; omega))
        have hZ := Lib.hid (hZ.out.grown hgs (by intro e; injection e; have := hlt1.out; omega))
        have hD := Lib.hid (bgB hD.out hBp0.out hgs)
        have hb := Lib.hid (hb.out.grown hgs hb.out.size (fun g8 e8 => by injection e8 with e8; have := hlt1.out; omega))
        clear hgs p0 p1 y0 y1 hBp0
        generalize ((w9.setCell ⟨gp, 0, none⟩ (Value.int .i64 (now + delay))).setCell ⟨gp, 1, none⟩ (Value.slice A' d.length c')) = wB at *
        go_wp2_with fail
        have hcell : Hid (∀ wz, Below wB.heap.size wB wz → wz.cell? ⟨w.heap.size, 5, none⟩ = some (Value.slice bA bn bc) ∧ wz.cell? ⟨gp, 0, none⟩ = some (Value.int .i64 (now + delay)) ∧ wz.cell? ⟨gp, 1, none⟩ = some (Value.slice A' d.length c')) := fun wz hz => by
          have q := hX.out.below hz hX.out.lt
          have q2 := hBp.out.below hz hBp.out.lt
          exact ⟨q.cell 5, q2.cell 0, q2.cell 1⟩
        have hboxB := Lib.hid (h.out.more hb.out).ba
        have hwB2 := Lib.hid hb.out.size
        refine RT.region [(39, 36), (39, 38)] [] (F := F20b w.heap.size gp wB.heap.size bA A' bn bc c' (now + delay) d box) (W := fun wz => Below wB.heap.size wB wz) (R := R20b wB.heap.size) rfl F20b_more (by kernel_rfl) (by kernel_rfl) (by kernel_rfl) (by kernel_rfl) (by kernel_rfl) (by kernel_rfl) rfl rfl ?_ ?_ ?_ ?_
        · exact (Below.refl _ _).drew
        · intro t ht
          unfold F20b
          split <;> first | trivial | exact rfl | (exact absurd ht (by decide))
        · simp only [List.forall_mem_cons, List.not_mem_nil, false_implies, implies_true, and_true]
          refine ⟨?_, ?_, ?_, ?_, ?_, ?_, ?_, ?_, ?_⟩
          · intro a w2 hw _ hf K hK
            clear hf
            go_simp
            exact hK _ _ _ rfl ⟨w2.heap.size, rfl, hw.size, Blk.new w2 29 #[]⟩ (below_new hw _) (a1 _ _) (fun h => absurd h (by decide))
          · intro a w2 hw _ hf K hK
            have f0 := hf 2 rfl
            simp only [F20b] at f0
            clear hf
            go_simp
            exact hK _ _ _ rfl rfl hw (Below.refl _ _) (fun h => absurd h (by decide))
          · intro a w2 hw _ hf K hK
            have f0 := hf 34 rfl
            simp only [F20b] at f0
            clear hf
            obtain ⟨k5, p0, p1⟩ := hcell.out w2 hw
            go_simp
            exact hK _ _ _ rfl rfl hw (Below.refl _ _) (fun h => absurd h (by decide))
          · intro a w2 hw _ hf K hK
            have f0 := hf 33 rfl
            have f1 := hf 35 rfl
            simp only [F20b] at f0 f1
            clear hf
            obtain ⟨g, e0, hbg, hbk⟩ := f0
            refine wp_append_kept w2 (.tmp 33) (.tmp 35) 23 rfl wB.heap.size 29 ip _ 2 32 Try.underlying23 hip.out hzp0.out hzp1.out hzp2.out rfl (by omega) (.slice (some ⟨g, 0, none⟩) 0 0) 0 [] ((eval_tmp a 33).trans e0) ⟨rfl, .inr ⟨g, 0, #[], rfl, hbg, hbk, Nat.le_refl _, Nat.zero_le _, rfl, rfl⟩⟩ w2.heap.size bA bn bc (flat pkC box) ((eval_tmp a 35).trans f1) (hboxB.out.more hw).2 (pkC_one _) (by simp only [maxLen]; omega) (by omega) hw.size ?_
            intro v' w' hown hg hkp
            have hbl : Below w2.heap.size w2 w' := by
              rcases hkp with h | ⟨g', cap', e, hc, h0⟩
              · exact h
              · injection e with _ _ ec; omega
            rw [Nat.zero_add, List.nil_append] at hown
            exact hK _ _ _ rfl ⟨pkC_len, by rw [hbn.out]; exact hown⟩ (hw.trans (hbl.mono hw.size)) hbl (fun h => absurd h (by decide))
          · intro a w2 hw _ hf K hK
            have f0 := hf 6 rfl
            simp only [F20b] at f0
            clear hf
            obtain ⟨k5, p0, p1⟩ := hcell.out w2 hw
            go_simp
            exact hK _ _ _ rfl rfl hw (Below.refl _ _) (fun h => absurd h (by decide))
          · intro a w2 hw _ hf K hK
            have f0 := hf 37 rfl
            simp only [F20b] at f0
            clear hf
            go_simp
            exact hK _ _ _ rfl ⟨w2.heap.size, rfl, hw.size, Blk.new w2 29 _⟩ (below_new hw _) (a1 _ _) (fun h => absurd h (by decide))
          · intro a w2 hw _ hf K hK
            have f0 := hf 36 rfl
            have f1 := hf 38 rfl
            simp only [F20b] at f0 f1
            clear hf
            obtain ⟨gl, e1, hgl, hBl⟩ := f1
            generalize hv36 : a.tmps[36]?.getD undef = v36 at f0
            refine wp_append_kept w2 (.tmp 36) (.tmp 38) 23 rfl wB.heap.size 29 ip _ 2 32 Try.underlying23 hip.out hzp0.out hzp1.out hzp2.out rfl (by omega) v36 bn (flat pkC box) ((eval_tmp a 36).trans hv36) (by have := f0.2; rw [hbn.out] at this; exact this) w2.heap.size (some ⟨gl, 0, none⟩) 1 1 (flat pkC [(⟨now + delay, A', d.length, c', d⟩ : Pk)]) ((eval_tmp a 38).trans e1) (lat_blk pkC_len hBl [(⟨now + delay, A', d.length, c', d⟩ : Pk)] 1 rfl (by simp [flat, pkC])).2 (pkC_one _) (by simp only [maxLen]; omega) (by omega) hw.size ?_
            intro v' w' hown hg hkp
            have hbb := below_row hw f0 (Nat.le_refl _) hw.size hg
            refine hK _ _ _ rfl ⟨pkC_len, by rw [List.length_append, flat_append, hbn.out]; exact hown⟩ hbb ⟨hg.size, fun b hb hbk => ?_⟩ (fun h => absurd h (by decide))
            rcases hkp with h | ⟨g', cap', e, hc, h0⟩
            · exact h.block b (lt_of_heap hbk)
            · have hf0 := f0.2.2
              rw [e] at hf0 hg
              rcases hf0 with ⟨e1, _⟩ | ⟨g2, c2, cur, e1, _, hh, _, _, hsz, _⟩
              · cases e1
              · injection e1 with e1 _ e3
                injection e1 with e1
                injection e1 with e1
                subst e1; subst e3
                refine hg.block b (lt_of_heap hbk) (fun e4 => ?_)
                simp [Value.ownBlock] at e4
                subst e4
                rw [hh] at hbk
                injection hbk with hbk
                injection hbk with hbk
                rw [hbk] at hsz
                simp at hsz
                omega
          · intro a w2 hw _ hf K hK
            have f0 := hf 2 rfl
            simp only [F20b] at f0
            clear hf
            go_simp
            exact hK _ _ _ rfl rfl hw (Below.refl _ _) (fun h => absurd h (by decide))
          · trivial
        · intro a' w9 hd hs hw hout hf
          have h39 := hf 39 rfl
          simp only [F20b] at h39
          have h40 := hf 40 rfl
          simp only [F20b] at h40
          have e0 : _ = some (Value.agg #[Value.int .i64 now, Value.int .i64 delay, Value.bool cut, Value.int .i64 count, Value.slice lA ln lc, Value.slice bA bn bc]) := hout 0 rfl
          have e1 : _ = some (Value.slice A d.length c) := hout 1 rfl
          have e2 : _ = some (Value.pointer (some ⟨w.heap.size, 0, none⟩)) := hout 2 rfl
          have e4 : _ = some (Value.pointer (some ⟨w.heap.size + 1, 0, none⟩)) := hout 4 rfl
          have e5 : _ = some (Value.int .i64 0) := hout 5 rfl
          have e6 : _ = some (Value.pointer (some ⟨gp, 0, none⟩)) := hout 6 rfl
          obtain ⟨tm, df⟩ := a'
          simp only at hd hs h39 h40 e0 e1 e2 e4 e5 e6
          have e := lit_arr tm 46 hs
          rw [show (List.range 46).map (fun i => tm[i]?.getD undef) = [tm[0]?.getD undef, tm[1]?.getD undef, tm[2]?.getD undef, tm[3]?.getD undef, tm[4]?.getD undef, tm[5]?.getD undef, tm[6]?.getD undef, tm[7]?.getD undef, tm[8]?.getD undef, tm[9]?.getD undef, tm[10]?.getD undef, tm[11]?.getD undef, tm[12]?.getD undef, tm[13]?.getD undef, tm[14]?.getD undef, tm[15]?.getD undef, tm[16]?.getD undef, tm[17]?.getD undef, tm[18]?.getD undef, tm[19]?.getD undef, tm[20]?.getD undef, tm[21]?.getD undef, tm[22]?.getD undef, tm[23]?.getD undef, tm[24]?.getD undef, tm[25]?.getD undef, tm[26]?.getD undef, tm[27]?.getD undef, tm[28]?.getD undef, tm[29]?.getD undef, tm[30]?.getD undef, tm[31]?.getD undef, tm[32]?.getD undef, tm[33]?.getD undef, tm[34]?.getD undef, tm[35]?.getD undef, tm[36]?.getD undef, tm[37]?.getD undef, tm[38]?.getD undef, tm[39]?.getD undef, tm[40]?.getD undef, tm[41]?.getD undef, tm[42]?.getD undef, tm[43]?.getD undef, tm[44]?.getD undef, tm[45]?.getD undef] from rfl] at e
          simp only [h40, e0, e1, e2, e4, e5, e6, Option.getD_some] at e
          clear hf hout hs
          rw [e, hd]
          clear e hd h40 e0 e1 e2 e4 e5 e6
          generalize tm[3]?.getD undef = q3x
          generalize tm[7]?.getD undef = q7x
          generalize tm[8]?.getD undef = q8x
          generalize tm[9]?.getD undef = q9x
          generalize tm[10]?.getD undef = q10x
          generalize tm[11]?.getD undef = q11x
          generalize tm[12]?.getD undef = q12x
          generalize tm[13]?.getD undef = q13x
          generalize tm[14]?.getD undef = q14x
          generalize tm[15]?.getD undef = q15x
          generalize tm[16]?.getD undef = q16x
          generalize tm[17]?.getD undef = q17x
          generalize tm[18]?.getD undef = q18x
          generalize tm[19]?.getD undef = q19x
          generalize tm[20]?.getD undef = q20x
          generalize tm[21]?.getD undef = q21x
          generalize tm[22]?.getD undef = q22x
          generalize tm[23]?.getD undef = q23x
          generalize tm[24]?.getD undef = q24x
          generalize tm[25]?.getD undef = q25x
          generalize tm[26]?.getD undef = q26x
          generalize tm[27]?.getD undef = q27x
          generalize tm[28]?.getD undef = q28x
          generalize tm[29]?.getD undef = q29x
          generalize tm[30]?.getD undef = q30x
          generalize tm[31]?.getD undef = q31x
          generalize tm[32]?.getD undef = q32x
          generalize tm[33]?.getD undef = q33x
          generalize tm[34]?.getD undef = q34x
          generalize tm[35]?.getD undef = q35x
          generalize tm[36]?.getD undef = q36x
          generalize tm[37]?.getD undef = q37x
          generalize tm[38]?.getD undef = q38x
          generalize tm[39]?.getD undef = q39x at h39 ⊢
          generalize tm[41]?.getD undef = q41x
          generalize tm[42]?.getD undef = q42x
          generalize tm[43]?.getD undef = q43x
          generalize tm[44]?.getD undef = q44x
          generalize tm[45]?.getD undef = q45x
          obtain ⟨A9, c9, hv9, hc9, hm9, hf9, -⟩ := h39.form
          rw [show (box ++ [(⟨now + delay, A', d.length, c', d⟩ : Pk)]).length = box.length + 1 by simp] at hv9 hc9
          subst hv9
          have hb := Lib.hid (hb.out.trans (hw.mono hb.out.size))
          have hX := Lib.hid (hX.out.below hw hX.out.lt)
          have hZ := Lib.hid (hZ.out.below hw hZ.out.lt)
          have hD := Lib.hid (hD.out.kept (hw.mono (Nat.le_refl _)))
          have h39 := Lib.hid h39
          clear hw hcell hboxB hf9
          obtain ⟨k0, k1, k2, k3, k4, k5, y0, y1, y2, y3, y4, y5⟩ := (show w9.cell? ⟨w.heap.size, 0, none⟩ = some (Value.int .i64 now) ∧ w9.cell? ⟨w.heap.size, 1, none⟩ = some (Value.int .i64 delay) ∧ w9.cell? ⟨w.heap.size, 2, none⟩ = some (Value.bool cut) ∧ w9.cell? ⟨w.heap.size, 3, none⟩ = some (Value.int .i64 count) ∧ w9.cell? ⟨w.heap.size, 4, none⟩ = some (Value.slice lA ln lc) ∧ w9.cell? ⟨w.heap.size, 5, none⟩ = some (Value.slice bA bn bc) ∧ w9.frozen? ⟨w.heap.size, 0, none⟩ = false ∧ w9.frozen? ⟨w.heap.size, 1, none⟩ = false ∧ w9.frozen? ⟨w.heap.size, 2, none⟩ = false ∧ w9.frozen? ⟨w.heap.size, 3, none⟩ = false ∧ w9.frozen? ⟨w.heap.size, 4, none⟩ = false ∧ w9.frozen? ⟨w.heap.size, 5, none⟩ = false from ⟨hX.out.cell 0, hX.out.cell 1, hX.out.cell 2, hX.out.cell 3, hX.out.cell 4, hX.out.cell 5, hX.out.frozen 0, hX.out.frozen 1, hX.out.frozen 2, hX.out.frozen 3, hX.out.frozen 4, hX.out.frozen 5⟩)
          have hXs : Hid (Blk (w9.setCell ⟨w.heap.size, 5, none⟩ (Value.slice A9 (box.length + 1) c9)) w.heap.size 25 #[Value.int .i64 now, Value.int .i64 delay, Value.bool cut, Value.int .i64 count, Value.slice lA ln lc, Value.slice A9 (box.length + 1) c9]) := hX.out.set_ 5 _
          have hX2 : Hid (Blk ((w9.setCell ⟨w.heap.size, 5, none⟩ (Value.slice A9 (box.length + 1) c9)).setCell ⟨w.heap.size, 3, none⟩ (Value.int .i64 (count + 1))) w.heap.size 25 #[Value.int .i64 now, Value.int .i64 delay, Value.bool cut, Value.int .i64 (count + 1), Value.slice lA ln lc, Value.slice A9 (box.length + 1) c9]) := hXs.out.set_ 3 _
          have hZ2 : Hid (Blk ((w9.setCell ⟨w.heap.size, 5, none⟩ (Value.slice A9 (box.length + 1) c9)).setCell ⟨w.heap.size, 3, none⟩ (Value.int .i64 (count + 1))) (w.heap.size + 1) 25 #[Value.int .i64 0, Value.int .i64 0, Value.bool false, Value.int .i64 0, Value.slice none 0 0, Value.slice none 0 0]) := (hZ.out.far (p := ⟨w.heap.size, 5, none⟩) (by simp) _).far (p := ⟨w.heap.size, 3, none⟩) (by simp) _
          have hgs : Hid (w9.grownBy ((w9.setCell ⟨w.heap.size, 5, none⟩ (Value.slice A9 (box.length + 1) c9)).setCell ⟨w.heap.size, 3, none⟩ (Value.int .i64 (count + 1))) (some w.heap.size)) := only_set (only_set (World.grownBy.refl _ _) 5 _) 3 _
          have h39s := Lib.hid (h39.out.grownB hX.out (by decide) hgs.out)
          have hDs := Lib.hid (hD.out.grownB hX.out (by decide) hgs.out)
          have hbs := Lib.hid (below_set (below_set hb.out (Nat.le_refl _) 5 (Value.slice A9 (box.length + 1) c9)) (Nat.le_refl _) 3 (Value.int .i64 (count + 1)))
          obtain ⟨m0, m1, m2, m3, m4, m5, r0, r1, r2, r3, r4, r5⟩ := (show (w9.setCell ⟨w.heap.size, 5, none⟩ (Value.slice A9 (box.length + 1) c9)).cell? ⟨w.heap.size, 0, none⟩ = some (Value.int .i64 now) ∧ (w9.setCell ⟨w.heap.size, 5, none⟩ (Value.slice A9 (box.length + 1) c9)).cell? ⟨w.heap.size, 1, none⟩ = some (Value.int .i64 delay) ∧ (w9.setCell ⟨w.heap.size, 5, none⟩ (Value.slice A9 (box.length + 1) c9)).cell? ⟨w.heap.size, 2, none⟩ = some (Value.bool cut) ∧ (w9.setCell ⟨w.heap.size, 5, none⟩ (Value.slice A9 (box.length + 1) c9)).cell? ⟨w.heap.size, 3, none⟩ = some (Value.int .i64 count) ∧ (w9.setCell ⟨w.heap.size, 5, none⟩ (Value.slice A9 (box.length + 1) c9)).cell? ⟨w.heap.size, 4, none⟩ = some (Value.slice lA ln lc) ∧ (w9.setCell ⟨w.heap.size, 5, none⟩ (Value.slice A9 (box.length + 1) c9)).cell? ⟨w.heap.size, 5, none⟩ = some (Value.slice A9 (box.length + 1) c9) ∧ (w9.setCell ⟨w.heap.size, 5, none⟩ (Value.slice A9 (box.length + 1) c9)).frozen? ⟨w.heap.size, 0, none⟩ = false ∧ (w9.setCell ⟨w.heap.size, 5, none⟩ (Value.slice A9 (box.length + 1) c9)).frozen? ⟨w.heap.size, 1, none⟩ = false ∧ (w9.setCell ⟨w.heap.size, 5, none⟩ (Value.slice A9 (box.length + 1) c9)).frozen? ⟨w.heap.size, 2, none⟩ = false ∧ (w9.setCell ⟨w.heap.size, 5, none⟩ (Value.slice A9 (box.length + 1) c9)).frozen? ⟨w.heap.size, 3, none⟩ = false ∧ (w9.setCell ⟨w.heap.size, 5, none⟩ (Value.slice A9 (box.length + 1) c9)).frozen? ⟨w.heap.size, 4, none⟩ = false ∧ (w9.setCell ⟨w.heap.size, 5, none⟩ (Value.slice A9 (box.length + 1) c9)).frozen? ⟨w.heap.size, 5, none⟩ = false from ⟨hXs.out.cell 0, hXs.out.cell 1, hXs.out.cell 2, hXs.out.cell 3, hXs.out.cell 4, hXs.out.cell 5, hXs.out.frozen 0, hXs.out.frozen 1, hXs.out.frozen 2, hXs.out.frozen 3, hXs.out.frozen 4, hXs.out.frozen 5⟩)
          obtain ⟨s0, s1, s2, s3, s4, s5⟩ := (show ((w9.setCell ⟨w.heap.size, 5, none⟩ (Value.slice A9 (box.length + 1) c9)).setCell ⟨w.heap.size, 3, none⟩ (Value.int .i64 (count + 1))).cell? ⟨w.heap.size, 0, none⟩ = some (Value.int .i64 now) ∧ ((w9.setCell ⟨w.heap.size, 5, none⟩ (Value.slice A9 (box.length + 1) c9)).setCell ⟨w.heap.size, 3, none⟩ (Value.int .i64 (count + 1))).cell? ⟨w.heap.size, 1, none⟩ = some (Value.int .i64 delay) ∧ ((w9.setCell ⟨w.heap.size, 5, none⟩ (Value.slice A9 (box.length + 1) c9)).setCell ⟨w.heap.size, 3, none⟩ (Value.int .i64 (count + 1))).cell? ⟨w.heap.size, 2, none⟩ = some (Value.bool cut) ∧ ((w9.setCell ⟨w.heap.size, 5, none⟩ (Value.slice A9 (box.length + 1) c9)).setCell ⟨w.heap.size, 3, none⟩ (Value.int .i64 (count + 1))).cell? ⟨w.heap.size, 3, none⟩ = some (Value.int .i64 (count + 1)) ∧ ((w9.setCell ⟨w.heap.size, 5, none⟩ (Value.slice A9 (box.length + 1) c9)).setCell ⟨w.heap.size, 3, none⟩ (Value.int .i64 (count + 1))).cell? ⟨w.heap.size, 4, none⟩ = some (Value.slice lA ln lc) ∧ ((w9.setCell ⟨w.heap.size, 5, none⟩ (Value.slice A9 (box.length + 1) c9)).setCell ⟨w.heap.size, 3, none⟩ (Value.int .i64 (count + 1))).cell? ⟨w.heap.size, 5, none⟩ = some (Value.slice A9 (box.length + 1) c9) from ⟨hX2.out.cell 0, hX2.out.cell 1, hX2.out.cell 2, hX2.out.cell 3, hX2.out.cell 4, hX2.out.cell 5⟩)
          obtain ⟨u0, u1, u2, u3, u4, u5, z0, z1, z2, z3, z4, z5⟩ := (show ((w9.setCell ⟨w.heap.size, 5, none⟩ (Value.slice A9 (box.length + 1) c9)).setCell ⟨w.heap.size, 3, none⟩ (Value.int .i64 (count + 1))).cell? ⟨(w.heap.size + 1), 0, none⟩ = some (Value.int .i64 0) ∧ ((w9.setCell ⟨w.heap.size, 5, none⟩ (Value.slice A9 (box.length + 1) c9)).setCell ⟨w.heap.size, 3, none⟩ (Value.int .i64 (count + 1))).cell? ⟨(w.heap.size + 1), 1, none⟩ = some (Value.int .i64 0) ∧ ((w9.setCell ⟨w.heap.size, 5, none⟩ (Value.slice A9 (box.length + 1) c9)).setCell ⟨w.heap.size, 3, none⟩ (Value.int .i64 (count + 1))).cell? ⟨(w.heap.size + 1), 2, none⟩ = some (Value.bool false) ∧ ((w9.setCell ⟨w.heap.size, 5, none⟩ (Value.slice A9 (box.length + 1) c9)).setCell ⟨w.heap.size, 3, none⟩ (Value.int .i64 (count + 1))).cell? ⟨(w.heap.size + 1), 3, none⟩ = some (Value.int .i64 0) ∧ ((w9.setCell ⟨w.heap.size, 5, none⟩ (Value.slice A9 (box.length + 1) c9)).setCell ⟨w.heap.size, 3, none⟩ (Value.int .i64 (count + 1))).cell? ⟨(w.heap.size + 1), 4, none⟩ = some (Value.slice none 0 0) ∧ ((w9.setCell ⟨w.heap.size, 5, none⟩ (Value.slice A9 (box.length + 1) c9)).setCell ⟨w.heap.size, 3, none⟩ (Value.int .i64 (count + 1))).cell? ⟨(w.heap.size + 1), 5, none⟩ = some (Value.slice none 0 0) ∧ ((w9.setCell ⟨w.heap.size, 5, none⟩ (Value.slice A9 (box.length + 1) c9)).setCell ⟨w.heap.size, 3, none⟩ (Value.int .i64 (count + 1))).frozen? ⟨(w.heap.size + 1), 0, none⟩ = false ∧ ((w9.setCell ⟨w.heap.size, 5, none⟩ (Value.slice A9 (box.length + 1) c9)).setCell ⟨w.heap.size, 3, none⟩ (Value.int .i64 (count + 1))).frozen? ⟨(w.heap.size + 1), 1, none⟩ = false ∧ ((w9.setCell ⟨w.heap.size, 5, none⟩ (Value.slice A9 (box.length + 1) c9)).setCell ⟨w.heap.size, 3, none⟩ (Value.int .i64 (count + 1))).frozen? ⟨(w.heap.size + 1), 2, none⟩ = false ∧ ((w9.setCell ⟨w.heap.size, 5, none⟩ (Value.slice A9 (box.length + 1) c9)).setCell ⟨w.heap.size, 3, none⟩ (Value.int .i64 (count + 1))).frozen? ⟨(w.heap.size + 1), 3, none⟩ = false ∧ ((w9.setCell ⟨w.heap.size, 5, none⟩ (Value.slice A9 (box.length + 1) c9)).setCell ⟨w.heap.size, 3, none⟩ (Value.int .i64 (count + 1))).frozen? ⟨(w.heap.size + 1), 4, none⟩ = false ∧ ((w9.setCell ⟨w.heap.size, 5, none⟩ (Value.slice A9 (box.length + 1) c9)).setCell ⟨w.heap.size, 3, none⟩ (Value.int .i64 (count + 1))).frozen? ⟨(w.heap.size + 1), 5, none⟩ = false from ⟨hZ2.out.cell 0, hZ2.out.cell 1, hZ2.out.cell 2, hZ2.out.cell 3, hZ2.out.cell 4, hZ2.out.cell 5, hZ2.out.frozen 0, hZ2.out.frozen 1, hZ2.out.frozen 2, hZ2.out.frozen 3, hZ2.out.frozen 4, hZ2.out.frozen 5⟩)
          go_simp
          go_wp2_with fail
          clear k0 k1 k2 k3 k4 k5 y0 y1 y2 y3 y4 y5 m0 m1 m2 m3 m4 m5 r0 r1 r2 r3 r4 r5 s0 s1 s2 s3 s4 s5 u0 u1 u2 u3 u4 u5 z0 z1 z2 z3 z4 z5 hXs hX hZ h39 hD hb hgs
          generalize ((w9.setCell ⟨w.heap.size, 5, none⟩ (Value.slice A9 (box.length + 1) c9)).setCell ⟨w.heap.size, 3, none⟩ (Value.int .i64 (count + 1))) = ws at *
          (try simp only [Exit.inBlock, Exit.then])
          have hB := lk_set6 hZ2.out (Value.int .i64 now) (Value.int .i64 delay) (Value.bool cut) (Value.int .i64 (count + 1)) (Value.slice lA ln lc) (Value.slice A9 (box.length + 1) c9)
          have hbF := below_set6 hbs.out (Nat.le_succ _) (Value.int .i64 now) (Value.int .i64 delay) (Value.bool cut) (Value.int .i64 (count + 1)) (Value.slice lA ln lc) (Value.slice A9 (box.length + 1) c9)
          have hgF := grown_set6 (ws) (w.heap.size + 1) (Value.int .i64 now) (Value.int .i64 delay) (Value.bool cut) (Value.int .i64 (count + 1)) (Value.slice lA ln lc) (Value.slice A9 (box.length + 1) c9)
          refine bodyPost_ret (v := .tuple #[.agg #[Value.int .i64 now, Value.int .i64 delay, Value.bool cut, Value.int .i64 (count + 1), Value.slice lA ln lc, Value.slice A9 (box.length + 1) c9], .int .i64 0]) ?_ rfl ?_
          · refine (res2 (fn := Try.f20) (p := 4) (u := 5) (ty := 25) rfl _ _ (w.heap.size + 1) 25 _ (0, 0) _ ?_ hB Try.underlying25 rfl (by kernel_rfl)).trans ?_
            · rfl
            · rfl
          clear hB
          generalize (((((((ws).setCell ⟨(w.heap.size + 1), 0, none⟩ (Value.int .i64 now)).setCell ⟨(w.heap.size + 1), 1, none⟩ (Value.int .i64 delay)).setCell ⟨(w.heap.size + 1), 2, none⟩ (Value.bool cut)).setCell ⟨(w.heap.size + 1), 3, none⟩ (Value.int .i64 (count + 1))).setCell ⟨(w.heap.size + 1), 4, none⟩ (Value.slice lA ln lc)).setCell ⟨(w.heap.size + 1), 5, none⟩ (Value.slice A9 (box.length + 1) c9)) = wF at *
          have hu9 := h39s.out.grownB hZ2.out (by decide) hgF
          have hD9 := hDs.out.grownB hZ2.out (by decide) hgF
          have hb9 := h.out.more hbF
          obtain ⟨A8, c8, e9, -, -, hfa, hat9⟩ := hu9.form
          rw [show (box ++ [(⟨now + delay, A', d.length, c', d⟩ : Pk)]).length = box.length + 1 by simp] at hat9 e9
          injection e9 with e9 _ e10
          subst e9; subst e10
          obtain ⟨A8, c8, e9, hq1, hq2, hfd, hatD⟩ := hD9.form
          injection e9 with e9 _ e10
          subst e9; subst e10
          refine ⟨⟨⟨now, delay, cut, count + 1, lA, ln, lc, lose, A9, box.length + 1, c9, (box ++ [(⟨now + delay, A', d.length, c', d⟩ : Pk)])⟩, by rw [hF.out]; rfl, ⟨hb9.la, hb9.lb, hb9.li, hat9, ⟨hc9, hm9⟩, ?_, ⟨hb9.ii.1, hb9.ii.2.1, by simp only [i64In]; omega⟩⟩, by rw [hF.out]; simp [Lk.val, Pk.val], fun Q hQ hQ2 => ⟨hQ.1, fun _ ad e => hQ2 _ (Nat.le_trans hwB2.out (hfa ad e).2.1), fun p hp h0 ad e => ?_⟩⟩, hbF⟩
          rotate_left
          · rcases List.mem_append.1 hp with hp | hp
            · exact hQ.2.2 p hp h0 ad e
            · simp at hp; subst hp
              exact hQ2 _ (Nat.le_trans hwB1.out (hfd ad e).2.1)
          intro p hp
          rcases List.mem_append.1 hp with hp | hp
          · exact hb9.bd p hp
          · simp at hp; subst hp
            exact ⟨⟨hatD, hq1, hq2⟩, by simp only [i64In]; omega⟩
end Go.Proofs.Yteolglmdfjddlaa
