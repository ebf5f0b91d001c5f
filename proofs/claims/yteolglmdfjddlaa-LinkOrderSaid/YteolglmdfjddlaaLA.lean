/- Links: bytes, numbers and packets in memory; what the calls compute; Clone and Equal, walked. -/
import Derived.Test.YteolglmdfjddlaaEl
import Derived.Test.YteolglmdfjddlaaOwn
import Derived.Test.YteolglmdfjddlaaRG
import Derived.Test.YteolglmdfjddlaaRA
import Derived.Test.YteolglmdfjddlaaRM
import Derived.Test.YteolglmdfjddlaaRN
import Derived.Maps.OwnOps
import Derived.Lib.SliceRun
set_option linter.unusedVariables false
set_option linter.unusedSimpArgs false
namespace Go.Proofs.Yteolglmdfjddlaa
open Go.RowKit
def bC (b : UInt8) : List Value := [.int .u8 (b.toNat : Int)]
theorem bC_len (b : UInt8) : (bC b).length = 1 := rfl
abbrev BAt (w : World) (B : Nat) (A : Option Addr) (n : Nat) (l : List UInt8) : Prop := LAt bC 1 w B A n l
abbrev BOwn (w : World) (base : Nat) (v : Value) (l : List UInt8) : Prop := LOwn bC 1 5 w base v l
theorem bC_one (l : List UInt8) : ∀ u ∈ flat bC l, u.oneCell' = true := by
  intro u hu
  simp only [flat, List.mem_flatMap, bC] at hu
  obtain ⟨s, _, h⟩ := hu
  simp at h
  rw [h]; rfl
theorem byte_info : (Try.prog.info? 5).map (fun i => (i.zero, i.size, i.bytes)) = some (some (.int .u8 0), 1, 1) := by kernel_rfl
def iC (n : Int) : List Value := [.int .i64 n]
theorem iC_len (n : Int) : (iC n).length = 1 := rfl
theorem iC_one (l : List Int) : ∀ u ∈ flat iC l, u.oneCell' = true := by
  intro u hu
  simp only [flat, List.mem_flatMap, iC] at hu
  obtain ⟨s, _, h⟩ := hu
  simp at h
  rw [h]; rfl
theorem int_info : (Try.prog.info? 3).map (fun i => (i.zero, i.size, i.bytes)) = some (some (.int .i64 0), 1, 8) := by kernel_rfl
abbrev IAt (w : World) (B : Nat) (A : Option Addr) (n : Nat) (l : List Int) : Prop := LAt iC 1 w B A n l
theorem i_cell {w : World} {B : Nat} {A : Option Addr} {n : Nat} {l : List Int} (h : LAt iC 1 w B A n l) {k : Nat} (hk : k < n) : ∃ ad, A = some ad ∧ ad.block < B ∧ w.cell? (ad.add k) = some (.int .i64 (l[k]'(by rw [h.len]; exact hk))) := by
  obtain ⟨ad, hA, hb, hc⟩ := h.at_ hk
  refine ⟨ad, hA, hb, ?_⟩
  have := hc 0 _ rfl
  simpa using this
/-- a row of slices of bytes -/
structure Bs where
  A : Option Addr
  n : Nat
  c : Nat
  d : List UInt8
def sC (b : Bs) : List Value := [.slice b.A b.n b.c]
theorem sC_len (b : Bs) : (sC b).length = 1 := rfl
theorem sC_one (l : List Bs) : ∀ u ∈ flat sC l, u.oneCell' = true := by
  intro u hu
  simp only [flat, List.mem_flatMap, sC] at hu
  obtain ⟨s, _, h⟩ := hu
  simp at h
  rw [h]; rfl
theorem bs_info : (Try.prog.info? 27).map (fun i => (i.zero, i.size, i.bytes)) = some (some (.slice none 0 0), 1, 24) := by kernel_rfl
/-- a packet: its time, its bytes and where they lie -/
structure Pk where
  due : Int
  A : Option Addr
  n : Nat
  c : Nat
  d : List UInt8
def pkC (p : Pk) : List Value := [.int .i64 p.due, .slice p.A p.n p.c]
theorem pkC_len (p : Pk) : (pkC p).length = 2 := rfl
theorem pkC_one (l : List Pk) : ∀ u ∈ flat pkC l, u.oneCell' = true := by
  intro u hu
  simp only [flat, List.mem_flatMap, pkC] at hu
  obtain ⟨s, _, h⟩ := hu
  simp at h
  rcases h with rfl | rfl <;> rfl
theorem pk_info : (Try.prog.info? 29).map (fun i => (i.zero, i.size, i.bytes)) = some (some (.agg #[.int .i64 0, .slice none 0 0]), 2, 32) := by kernel_rfl
theorem pk_cells {w : World} {B n k : Nat} {A : Option Addr} {L : List Pk} (h : LAt pkC 2 w B A n L) (hk : k < n) :
    ∃ ad, A = some ad ∧ ad.block < B ∧ w.cell? (ad.add (k * 2)) = some (Value.int .i64 (L[k]'(by rw [h.len]; exact hk)).due) ∧ w.cell? ⟨(ad.add (k * 2)).block, (ad.add (k * 2)).off + 1, none⟩ = some (Value.slice (L[k]'(by rw [h.len]; exact hk)).A (L[k]'(by rw [h.len]; exact hk)).n (L[k]'(by rw [h.len]; exact hk)).c) := by
  obtain ⟨ad, rfl, hb, hc⟩ := h.at_ hk
  have f := fun j u hj => (add_next ad (k * 2) j) ▸ hc (j + 1) u hj
  exact ⟨ad, rfl, hb, hc 0 _ rfl, f 0 _ rfl⟩
def i64In (n : Int) : Prop := -9223372036854775808 ≤ n ∧ n ≤ 9223372036854775807
/-- a packet's bytes are there -/
def PkAt (w : World) (p : Pk) : Prop := (BAt w w.heap.size p.A p.n p.d ∧ p.n ≤ p.c ∧ p.c ≤ maxLen) ∧ i64In p.due
theorem PkAt.more {w w' : World} {p : Pk} (h : PkAt w p) (hb : Below w.heap.size w w') : PkAt w' p := ⟨⟨h.1.1.more hb, h.1.2⟩, h.2⟩
def BsAt (w : World) (p : Bs) : Prop := BAt w w.heap.size p.A p.n p.d ∧ p.n ≤ p.c ∧ p.c ≤ maxLen
theorem BsAt.more {w w' : World} {p : Bs} (h : BsAt w p) (hb : Below w.heap.size w w') : BsAt w' p := ⟨h.1.more hb, h.2⟩
structure Lk where
  now : Int
  delay : Int
  cut : Bool
  count : Int
  lA : Option Addr
  ln : Nat
  lc : Nat
  lose : List Int
  bA : Option Addr
  bn : Nat
  bc : Nat
  box : List Pk
def lkV (l : Lk) : Value := .agg #[.int .i64 l.now, .int .i64 l.delay, .bool l.cut, .int .i64 l.count, .slice l.lA l.ln l.lc, .slice l.bA l.bn l.bc]
/-- what a link says, wherever it lies -/
structure Lv where
  now : Int
  delay : Int
  cut : Bool
  count : Int
  lose : List Int
  box : List (Int × List UInt8)
def Pk.val (p : Pk) : Int × List UInt8 := (p.due, p.d)
def Lk.val (l : Lk) : Lv := ⟨l.now, l.delay, l.cut, l.count, l.lose, l.box.map Pk.val⟩
structure LkOk (w : World) (l : Lk) : Prop where
  la : IAt w w.heap.size l.lA l.ln l.lose
  lb : l.ln ≤ l.lc ∧ l.lc ≤ maxLen
  li : ∀ x ∈ l.lose, i64In x
  ba : LAt pkC 2 w w.heap.size l.bA l.bn l.box
  bb : l.bn ≤ l.bc ∧ l.bc ≤ maxLen
  bd : ∀ p ∈ l.box, PkAt w p
  ii : i64In l.now ∧ i64In l.delay ∧ i64In l.count
theorem LkOk.more {w w' : World} {l : Lk} (h : LkOk w l) (hb : Below w.heap.size w w') : LkOk w' l :=
  ⟨h.la.more hb, h.lb, h.li, h.ba.more hb, h.bb, fun p hp => (h.bd p hp).more hb, h.ii⟩
/-- small enough to be copied -/
def LkSm (l : Lk) : Prop := l.lose.length ≤ 1000 ∧ l.box.length ≤ 1000 ∧ ∀ p ∈ l.box, p.d.length ≤ 100000
/-- all that it leads to lies in blocks from 'base' on -/
def LkFr (base : Nat) (l : Lk) : Prop := (∀ ad, l.lA = some ad → base ≤ ad.block) ∧ (∀ ad, l.bA = some ad → base ≤ ad.block) ∧ ∀ p ∈ l.box, ∀ ad, p.A = some ad → base ≤ ad.block
theorem LkFr.mono {b b' : Nat} {l : Lk} (h : LkFr b l) (hb : b' ≤ b) : LkFr b' l := ⟨fun ad e => Nat.le_trans hb (h.1 ad e), fun ad e => Nat.le_trans hb (h.2.1 ad e), fun p hp ad e => Nat.le_trans hb (h.2.2 p hp ad e)⟩
/-- the first error among m places from k on -/
def firstE (f : Nat → Int) : Nat → Nat → Int
  | 0, _ => 0
  | m + 1, k => if f k = 0 then firstE f m (k + 1) else f k
def loseE (l : List Int) (k : Nat) : Int := if l.getD k 0 < 0 then 2 else if 0 < k ∧ l.getD k 0 ≤ l.getD (k - 1) 0 then 1 else 0
def boxE (v : Lv) (k : Nat) : Int := if (v.box.getD k (0, [])).1 ≤ v.now ∨ v.now + v.delay < (v.box.getD k (0, [])).1 then 2 else if 0 < k ∧ (v.box.getD k (0, [])).1 < (v.box.getD (k - 1) (0, [])).1 then 1 else if 8198 < (v.box.getD k (0, [])).2.length then 3 else 0
def badHead (v : Lv) : Prop := v.now < 0 ∨ 268435456 < v.now ∨ v.delay < 1 ∨ 60 < v.delay ∨ v.count < 0 ∨ 2147483647 < v.count
instance (v : Lv) : Decidable (badHead v) := by unfold badHead; infer_instance
def boxV (v : Lv) : Int := if 256 < v.box.length then 3 else firstE (boxE v) v.box.length 0
def validL (v : Lv) : Int := if badHead v then 2 else if 256 < v.lose.length then 3 else if firstE (loseE v.lose) v.lose.length 0 = 0 then boxV v else firstE (loseE v.lose) v.lose.length 0
def lostL (v : Lv) : Bool := v.cut || v.lose.contains v.count
def sendL (v : Lv) (d : List UInt8) : Lv × Int := if 8198 < d.length ∨ 2147483647 ≤ v.count then (v, 3) else if lostL v = true then ({ v with count := v.count + 1 }, 0) else if 256 ≤ v.box.length then (v, 3) else ({ v with count := v.count + 1, box := v.box ++ [(v.now + v.delay, d)] }, 0)
def tickL (v : Lv) : Lv × List (List UInt8) := if 268435456 ≤ v.now then (v, []) else ({ v with now := v.now + 1, box := v.box.filter fun p => decide (v.now + 1 < p.1) }, if v.cut then [] else (v.box.filter fun p => !decide (v.now + 1 < p.1)).map (·.2))
def cutL (v : Lv) (b : Bool) : Lv := { v with cut := b }
def newL (delay : Int) (lose : List Int) : Lv := ⟨0, delay, false, 0, lose, []⟩
def noneL : Lv := ⟨0, 0, false, 0, [], []⟩
set_option maxRecDepth 100000 in
set_option maxHeartbeats 4000000 in
theorem cloneB_any (A : Option Addr) (n c : Nat) (l : List UInt8) (w : World) (h : LAt bC 1 w w.heap.size A n l) (hn : n ≤ 100000000) :
    Calls Try.prog 28 #[.slice A n c] w fun e w' => ∃ v, e = .returned v ∧ LOwn bC 1 5 w' w.heap.size v l ∧ Below w.heap.size w w' := by
  obtain ⟨i0, hi0, hz0, hz1, hz2⟩ := info_parts byte_info
  have hl := h.len
  have heq := fun (w : World) => Lib.run_eql_slice_nil (P := Try.prog) w 27 5 A n c 0 0 Try.underlying27
  cases A with
  | none =>
    have h0 : n = 0 := by
      rcases Nat.eq_zero_or_pos n with h0 | h0
      · exact h0
      · obtain ⟨ad, e, _⟩ := h.at_ h0; cases e
    subst h0
    obtain rfl : l = [] := List.eq_nil_of_length_eq_zero hl
    clear hl
    replace h := Lib.hid h
    go_enter Try.func28, Try.ntmps28
    go_wp2_with fail
    go_ret
    exact ⟨_, rfl, LOwn.nil bC_len _ _, Below.refl _ _⟩
  | some ad =>
    replace hl := Lib.hid hl
    have hown : Hid (LOwn bC 1 5 (w.alloc (.cells #[] 5)) w.heap.size (.slice (some ⟨w.heap.size, 0, none⟩) 0 0) []) := lit_own bC_len w [] #[] rfl (Nat.zero_le _)
    have hrd : Hid (Reads (w.alloc (.cells #[] 5)) w.heap.size 1 (some ad) n (flat bC l)) := (h.below (a1 w _) (Nat.le_refl _)).2
    replace h := Lib.hid h
    go_enter Try.func28, Try.ntmps28
    go_wp2_with (at_builtin; refine wpList_append_any _ rfl (.tmp 5) (.tmp 6) _ rfl w.heap.size 5 i0 _ 1 1 Try.underlying27 hi0 hz0 hz1 hz2 rfl (by omega) (.slice (some ⟨w.heap.size, 0, none⟩) 0 0) 0 [] rfl hown.out.2 w.heap.size (some ad) n c (flat bC l) rfl hrd.out (bC_one _) (by simp only [maxLen]; omega) (by omega) (by simp) ?_; intro v' w1 hown1 hg1 hat1)
    go_ret
    refine ⟨_, rfl, ⟨bC_len, ?_⟩, ?_⟩
    · have := hown1
      rw [Nat.zero_add, List.nil_append] at this
      rw [hl.out]; exact this
    · exact (a1 w _).grown hg1 (by simp) (fun k hk => by simp [Value.ownBlock] at hk; omega)
set_option maxRecDepth 100000 in
set_option maxHeartbeats 4000000 in
theorem cloneI_any (A : Option Addr) (n c : Nat) (l : List Int) (w : World) (h : LAt iC 1 w w.heap.size A n l) (hn : n ≤ 1000000) :
    Calls Try.prog 34 #[.slice A n c] w fun e w' => ∃ v, e = .returned v ∧ LOwn iC 1 3 w' w.heap.size v l ∧ Below w.heap.size w w' := by
  obtain ⟨i0, hi0, hz0, hz1, hz2⟩ := info_parts int_info
  have hl := h.len
  have heq := fun (w : World) => Lib.run_eql_slice_nil (P := Try.prog) w 22 3 A n c 0 0 Try.underlying22
  cases A with
  | none =>
    have h0 : n = 0 := by
      rcases Nat.eq_zero_or_pos n with h0 | h0
      · exact h0
      · obtain ⟨ad, e, _⟩ := h.at_ h0; cases e
    subst h0
    obtain rfl : l = [] := List.eq_nil_of_length_eq_zero hl
    clear hl
    replace h := Lib.hid h
    go_enter Try.func34, Try.ntmps34
    go_wp2_with fail
    go_ret
    exact ⟨_, rfl, LOwn.nil iC_len _ _, Below.refl _ _⟩
  | some ad =>
    replace hl := Lib.hid hl
    have hown : Hid (LOwn iC 1 3 (w.alloc (.cells #[] 3)) w.heap.size (.slice (some ⟨w.heap.size, 0, none⟩) 0 0) []) := lit_own iC_len w [] #[] rfl (Nat.zero_le _)
    have hrd : Hid (Reads (w.alloc (.cells #[] 3)) w.heap.size 1 (some ad) n (flat iC l)) := (h.below (a1 w _) (Nat.le_refl _)).2
    replace h := Lib.hid h
    go_enter Try.func34, Try.ntmps34
    go_wp2_with (at_builtin; refine wpList_append_any _ rfl (.tmp 5) (.tmp 6) _ rfl w.heap.size 3 i0 _ 1 8 Try.underlying22 hi0 hz0 hz1 hz2 rfl (by omega) (.slice (some ⟨w.heap.size, 0, none⟩) 0 0) 0 [] rfl hown.out.2 w.heap.size (some ad) n c (flat iC l) rfl hrd.out (iC_one _) (by simp only [maxLen]; omega) (by omega) (by simp) ?_; intro v' w1 hown1 hg1 hat1)
    go_ret
    refine ⟨_, rfl, ⟨iC_len, ?_⟩, ?_⟩
    · have := hown1
      rw [Nat.zero_add, List.nil_append] at this
      rw [hl.out]; exact this
    · exact (a1 w _).grown hg1 (by simp) (fun k hk => by simp [Value.ownBlock] at hk; omega)
set_option maxRecDepth 100000 in
set_option maxHeartbeats 4000000 in
theorem cloneP_any (A : Option Addr) (n c : Nat) (l : List Pk) (w : World) (h : LAt pkC 2 w w.heap.size A n l) (hn : n ≤ 1000000) :
    Calls Try.prog 35 #[.slice A n c] w fun e w' => ∃ v, e = .returned v ∧ LOwn pkC 2 29 w' w.heap.size v l ∧ Below w.heap.size w w' := by
  obtain ⟨i0, hi0, hz0, hz1, hz2⟩ := info_parts pk_info
  have hl := h.len
  have heq := fun (w : World) => Lib.run_eql_slice_nil (P := Try.prog) w 23 29 A n c 0 0 Try.underlying23
  cases A with
  | none =>
    have h0 : n = 0 := by
      rcases Nat.eq_zero_or_pos n with h0 | h0
      · exact h0
      · obtain ⟨ad, e, _⟩ := h.at_ h0; cases e
    subst h0
    obtain rfl : l = [] := List.eq_nil_of_length_eq_zero hl
    clear hl
    replace h := Lib.hid h
    go_enter Try.func35, Try.ntmps35
    go_wp2_with fail
    go_ret
    exact ⟨_, rfl, LOwn.nil pkC_len _ _, Below.refl _ _⟩
  | some ad =>
    replace hl := Lib.hid hl
    have hown : Hid (LOwn pkC 2 29 (w.alloc (.cells #[] 29)) w.heap.size (.slice (some ⟨w.heap.size, 0, none⟩) 0 0) []) := lit_own pkC_len w [] #[] rfl (Nat.zero_le _)
    have hrd : Hid (Reads (w.alloc (.cells #[] 29)) w.heap.size 2 (some ad) n (flat pkC l)) := (h.below (a1 w _) (Nat.le_refl _)).2
    replace h := Lib.hid h
    go_enter Try.func35, Try.ntmps35
    go_wp2_with (at_builtin; refine wpList_append_any _ rfl (.tmp 5) (.tmp 6) _ rfl w.heap.size 29 i0 _ 2 32 Try.underlying23 hi0 hz0 hz1 hz2 rfl (by omega) (.slice (some ⟨w.heap.size, 0, none⟩) 0 0) 0 [] rfl hown.out.2 w.heap.size (some ad) n c (flat pkC l) rfl hrd.out (pkC_one _) (by simp only [maxLen]; omega) (by omega) (by simp) ?_; intro v' w1 hown1 hg1 hat1)
    go_ret
    refine ⟨_, rfl, ⟨pkC_len, ?_⟩, ?_⟩
    · have := hown1
      rw [Nat.zero_add, List.nil_append] at this
      rw [hl.out]; exact this
    · exact (a1 w _).grown hg1 (by simp) (fun k hk => by simp [Value.ownBlock] at hk; omega)
set_option maxRecDepth 100000 in
set_option maxHeartbeats 4000000 in
theorem bclone_any (A : Option Addr) (n c : Nat) (l : List UInt8) (w : World) (h : LAt bC 1 w w.heap.size A n l) (hn : n ≤ 100000000) :
    Calls Try.prog 12 #[.slice A n c] w fun e w' => ∃ v, e = .returned v ∧ LOwn bC 1 5 w' w.heap.size v l ∧ Below w.heap.size w w' := by
  obtain ⟨i0, hi0, hz0, hz1, hz2⟩ := info_parts byte_info
  have hl := h.len
  have heq := fun (w : World) => Lib.run_eql_slice_nil (P := Try.prog) w 27 5 A n c 0 0 Try.underlying27
  cases A with
  | none =>
    have h0 : n = 0 := by
      rcases Nat.eq_zero_or_pos n with h0 | h0
      · exact h0
      · obtain ⟨ad, e, _⟩ := h.at_ h0; cases e
    subst h0
    obtain rfl : l = [] := List.eq_nil_of_length_eq_zero hl
    clear hl
    replace h := Lib.hid h
    go_enter Try.func12, Try.ntmps12
    go_wp2_with fail
    go_ret
    exact ⟨_, rfl, LOwn.nil bC_len _ _, Below.refl _ _⟩
  | some ad =>
    replace hl := Lib.hid hl
    have hown : Hid (LOwn bC 1 5 (w.alloc (.cells #[] 5)) w.heap.size (.slice (some ⟨w.heap.size, 0, none⟩) 0 0) []) := lit_own bC_len w [] #[] rfl (Nat.zero_le _)
    have hrd : Hid (Reads (w.alloc (.cells #[] 5)) w.heap.size 1 (some ad) n (flat bC l)) := (h.below (a1 w _) (Nat.le_refl _)).2
    replace h := Lib.hid h
    go_enter Try.func12, Try.ntmps12
    go_wp2_with (at_builtin; refine wpList_append_any _ rfl (.tmp 5) (.tmp 6) _ rfl w.heap.size 5 i0 _ 1 1 Try.underlying27 hi0 hz0 hz1 hz2 rfl (by omega) (.slice (some ⟨w.heap.size, 0, none⟩) 0 0) 0 [] rfl hown.out.2 w.heap.size (some ad) n c (flat bC l) rfl hrd.out (bC_one _) (by simp only [maxLen]; omega) (by omega) (by simp) ?_; intro v' w1 hown1 hg1 hat1)
    go_ret
    refine ⟨_, rfl, ⟨bC_len, ?_⟩, ?_⟩
    · have := hown1
      rw [Nat.zero_add, List.nil_append] at this
      rw [hl.out]; exact this
    · exact (a1 w _).grown hg1 (by simp) (fun k hk => by simp [Value.ownBlock] at hk; omega)
end Go.Proofs.Yteolglmdfjddlaa
