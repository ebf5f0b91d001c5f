/- Links: the law LinkPlay, walked. -/
import Derived.Test.YteolglmdfjddlaaLM
import Derived.Test.YteolglmdfjddlaaRU
import Derived.Test.YteolglmdfjddlaaRW
set_option linter.unusedVariables false
set_option linter.unusedSimpArgs false
namespace Go.Proofs.Yteolglmdfjddlaa
open Go.RowKit
theorem LkK.base {B B' : Nat} {l l' : Lk} (h : LkK B' l l') (hb : B ≤ B') : LkK B l l' := fun Q h1 h2 => h Q h1 (fun g hg => h2 g (Nat.le_trans hb hg))
/-- what play hands back, as one value and in its parts -/
def PlT (base gx : Nat) (la : Lk) (r : Lv × List (List UInt8) × Int) (v : Value) (w : World) : Prop := ∃ l' A n c C, v = .tuple #[lkV l', .slice A n c, .int .i64 r.2.2] ∧ LkOk w l' ∧ l'.val = r.1 ∧ LOwn sC 1 27 w base (.slice A n c) C ∧ (∀ b ∈ C, BOwn w base (.slice b.A b.n b.c) b.d) ∧ C.map (·.d) = r.2.1 ∧ LkK base la l' ∧ LkQ (fun b => b ≠ gx) l'
def PlA (base gx : Nat) (la : Lk) (v0 : Lv) (v : Value) (w : World) : Prop := ∃ l', v = lkV l' ∧ LkOk w l' ∧ l'.val = v0 ∧ LkK base la l' ∧ LkQ (fun b => b ≠ gx) l'
def PlC (base : Nat) (ds : List (List UInt8)) (v : Value) (w : World) : Prop := ∃ A n c C, v = .slice A n c ∧ LOwn sC 1 27 w base (.slice A n c) C ∧ (∀ b ∈ C, BOwn w base (.slice b.A b.n b.c) b.d) ∧ C.map (·.d) = ds
def SeT (base gx : Nat) (la : Lk) (r : Lv × Int) (v : Value) (w : World) : Prop := ∃ l', v = .tuple #[lkV l', .int .i64 r.2] ∧ LkOk w l' ∧ l'.val = r.1 ∧ LkK base la l' ∧ LkQ (fun b => b ≠ gx) l'
theorem PlT.more {base gx : Nat} {la : Lk} {r : Lv × List (List UInt8) × Int} {v : Value} {w w' : World} (h : PlT base gx la r v w) (hb : Below w.heap.size w w') : PlT base gx la r v w' := by
  obtain ⟨l', A, n, c, C, h0, h1, h2, h3, h4, h5, h6⟩ := h
  exact ⟨l', A, n, c, C, h0, h1.more hb, h2, h3.kept hb, fun b hx => (h4 b hx).kept hb, h5, h6⟩
theorem PlA.more {base gx : Nat} {la : Lk} {v0 : Lv} {v : Value} {w w' : World} (h : PlA base gx la v0 v w) (hb : Below w.heap.size w w') : PlA base gx la v0 v w' := by
  obtain ⟨l', h0, h1, h2, h3⟩ := h
  exact ⟨l', h0, h1.more hb, h2, h3⟩
theorem PlC.more {base : Nat} {ds : List (List UInt8)} {v : Value} {w w' : World} (h : PlC base ds v w) (hb : Below w.heap.size w w') : PlC base ds v w' := by
  obtain ⟨A, n, c, C, h0, h3, h4, h5⟩ := h
  exact ⟨A, n, c, C, h0, h3.kept hb, fun b hx => (h4 b hx).kept hb, h5⟩
theorem SeT.more {base gx : Nat} {la : Lk} {r : Lv × Int} {v : Value} {w w' : World} (h : SeT base gx la r v w) (hb : Below w.heap.size w w') : SeT base gx la r v w' := by
  obtain ⟨l', h0, h1, h2, h3⟩ := h
  exact ⟨l', h0, h1.more hb, h2, h3⟩
theorem PlT.st {base gx : Nat} {la : Lk} {r : Lv × List (List UInt8) × Int} {v : Value} {w w' : World} (h : PlT base gx la r v w) (hlt : gx < base) (hg : w.grownBy w' (some gx)) : PlT base gx la r v w' := by
  obtain ⟨l', A, n, c, C, h0, h1, h2, h3, h4, h5, h6, h7⟩ := h
  exact ⟨l', A, n, c, C, h0, LkOk_q h1 h7 hg, h2, h3.far hg hlt, fun b hx => (h4 b hx).far hg hlt, h5, h6, h7⟩
theorem PlA.st {base gx : Nat} {la : Lk} {v0 : Lv} {v : Value} {w w' : World} (h : PlA base gx la v0 v w) (hlt : gx < base) (hg : w.grownBy w' (some gx)) : PlA base gx la v0 v w' := by
  obtain ⟨l', h0, h1, h2, h3, h7⟩ := h
  exact ⟨l', h0, LkOk_q h1 h7 hg, h2, h3, h7⟩
theorem PlC.st {base gx : Nat} {ds : List (List UInt8)} {v : Value} {w w' : World} (h : PlC base ds v w) (hlt : gx < base) (hg : w.grownBy w' (some gx)) : PlC base ds v w' := by
  obtain ⟨A, n, c, C, h0, h3, h4, h5⟩ := h
  exact ⟨A, n, c, C, h0, h3.far hg hlt, fun b hx => (h4 b hx).far hg hlt, h5⟩
theorem SeT.st {base gx : Nat} {la : Lk} {r : Lv × Int} {v : Value} {w w' : World} (h : SeT base gx la r v w) (hlt : gx < base) (hg : w.grownBy w' (some gx)) : SeT base gx la r v w' := by
  obtain ⟨l', h0, h1, h2, h3, h7⟩ := h
  exact ⟨l', h0, LkOk_q h1 h7 hg, h2, h3, h7⟩
theorem LkQ.left {P Q : Nat → Prop} {l : Lk} (h : LkQ (fun b => P b ∧ Q b) l) : LkQ P l := ⟨fun h0 ad e => (h.1 h0 ad e).1, fun h0 ad e => (h.2.1 h0 ad e).1, fun p hp h0 ad e => (h.2.2 p hp h0 ad e).1⟩
theorem LkQ.right {P Q : Nat → Prop} {l : Lk} (h : LkQ (fun b => P b ∧ Q b) l) : LkQ Q l := ⟨fun h0 ad e => (h.1 h0 ad e).2, fun h0 ad e => (h.2.1 h0 ad e).2, fun p hp h0 ad e => (h.2.2 p hp h0 ad e).2⟩
theorem new_err (delay : Int) (lose : List Int) (h : (newR delay lose).2 = 0) : newR delay lose = (newL delay lose, 0) ∧ validL (newL delay lose) = 0 := by
  unfold newR at *
  split at h
  · rename_i h0; exact absurd h h0
  · rename_i h0
    rw [if_neg h0]
    exact ⟨rfl, by simpa using h0⟩
theorem new_lens (delay : Int) (lose : List Int) : (newR delay lose).1.lose.length ≤ lose.length ∧ (newR delay lose).1.box = [] := by
  unfold newR
  split
  · exact ⟨by simp [noneL], rfl⟩
  · exact ⟨Nat.le_refl _, rfl⟩
theorem play_few (v : Lv) (k : Int) (d : List UInt8) : (playL v k d).2.1.length ≤ v.box.length := by
  unfold playL
  split
  · simp
  · split
    · exact tick_few v
    · split
      · simp
      · split <;> simp
def F5a (g7 n c k base : Nat) (ad : Addr) (la : Lk) (r : Lv × List (List UInt8) × Int) (OV : Value) : Tmp → Value → World → Prop
  | 2, v, _ => v = .slice (some ad) n c
  | 7, v, _ => v = .pointer (some ⟨g7, 0, none⟩)
  | 11, v, _ => v = .int .i64 (k : Int)
  | 12, v, w => PlC base r.2.1 v w
  | 51, v, w => PlT base g7 la r v w
  | 52, v, _ => v = lkV la
  | 53, v, _ => v = .slice (some ad) n c
  | 54, v, _ => v = .int .i64 (k : Int)
  | 55, v, _ => v = .pointer (some (ad.add (k * 2)))
  | 56, v, _ => v = OV
  | 57, v, w => PlT base g7 la r v w
  | 58, v, w => PlA base g7 la r.1 v w
  | 59, v, w => PlC base r.2.1 v w
  | 60, v, _ => v = .int .i64 r.2.2
  | _, _, _ => True
theorem F5a_more {g7 n c k base : Nat} {ad : Addr} {la : Lk} {r : Lv × List (List UInt8) × Int} {OV : Value} (d t : Tmp) (v : Value) (w w' : World) (hR : Rb w w') (hne : t ≠ d) (hc : ([] : List (Tmp × Tmp)).contains (d, t) = false) (h : F5a g7 n c k base ad la r OV t v w) : F5a g7 n c k base ad la r OV t v w' := by
  unfold F5a at *
  split at h <;> first | exact h | exact PlT.more h hR | exact fun hg => PlT.more (h hg) hR | exact PlA.more h hR | exact fun hg => PlA.more (h hg) hR | exact PlC.more h hR | exact fun hg => PlC.more (h hg) hR
theorem F5a_st {g7 n c k base : Nat} {ad : Addr} {la : Lk} {r : Lv × List (List UInt8) × Int} {OV : Value} (hlt : g7 < base) (t : Tmp) (v : Value) (w w' : World) (hg : w.grownBy w' (some g7)) (h : F5a g7 n c k base ad la r OV t v w) : F5a g7 n c k base ad la r OV t v w' := by
  unfold F5a at *
  split at h <;> first | exact h | exact PlT.st h hlt hg | exact PlA.st h hlt hg | exact PlC.st h hlt hg | exact SeT.st h hlt hg
def F5b (g9 n c k base pc : Nat) (ad : Addr) (lb : Lk) (pA : Option Addr) (dl : Nat) (r : Lv × Int) : Tmp → Value → World → Prop
  | 2, v, _ => v = .slice (some ad) n c
  | 9, v, _ => v = .pointer (some ⟨g9, 0, none⟩)
  | 11, v, _ => v = .int .i64 (k : Int)
  | 68, v, w => SeT base g9 lb r v w
  | 69, v, _ => v = lkV lb
  | 70, v, _ => v = .slice (some ad) n c
  | 71, v, _ => v = .int .i64 (k : Int)
  | 72, v, _ => v = .pointer (some (ad.add (k * 2)))
  | 73, v, _ => v = .pointer (some ⟨(ad.add (k * 2)).block, (ad.add (k * 2)).off + 1, none⟩)
  | 74, v, _ => v = .slice pA dl pc
  | 75, v, w => SeT base g9 lb r v w
  | 76, v, w => PlA base g9 lb r.1 v w
  | 77, v, _ => v = .int .i64 r.2
  | _, _, _ => True
theorem F5b_more {g9 n c k base pc : Nat} {ad : Addr} {lb : Lk} {pA : Option Addr} {dl : Nat} {r : Lv × Int} (d t : Tmp) (v : Value) (w w' : World) (hR : Rb w w') (hne : t ≠ d) (hc : ([] : List (Tmp × Tmp)).contains (d, t) = false) (h : F5b g9 n c k base pc ad lb pA dl r t v w) : F5b g9 n c k base pc ad lb pA dl r t v w' := by
  unfold F5b at *
  split at h <;> first | exact h | exact SeT.more h hR | exact fun hg => SeT.more (h hg) hR | exact PlA.more h hR | exact fun hg => PlA.more (h hg) hR
theorem F5b_st {g9 n c k base pc : Nat} {ad : Addr} {lb : Lk} {pA : Option Addr} {dl : Nat} {r : Lv × Int} (hlt : g9 < base) (t : Tmp) (v : Value) (w w' : World) (hg : w.grownBy w' (some g9)) (h : F5b g9 n c k base pc ad lb pA dl r t v w) : F5b g9 n c k base pc ad lb pA dl r t v w' := by
  unfold F5b at *
  split at h <;> first | exact h | exact PlT.st h hlt hg | exact PlA.st h hlt hg | exact PlC.st h hlt hg | exact SeT.st h hlt hg
def F5c (g9 n c k base : Nat) (ad : Addr) (lb : Lk) (kd : Int) (b : Bool) : Tmp → Value → World → Prop
  | 2, v, _ => v = .slice (some ad) n c
  | 9, v, _ => v = .pointer (some ⟨g9, 0, none⟩)
  | 11, v, _ => v = .int .i64 (k : Int)
  | 88, v, _ => v = lkV lb
  | 89, v, _ => v = .slice (some ad) n c
  | 90, v, _ => v = .int .i64 (k : Int)
  | 91, v, _ => v = .pointer (some (ad.add (k * 2)))
  | 92, v, _ => v = .pointer (some (ad.add (k * 2)))
  | 93, v, _ => v = .int .i64 kd
  | 94, v, _ => v = .bool b
  | 95, v, w => PlA base g9 lb (cutL lb.val b) v w
  | _, _, _ => True
theorem F5c_more {g9 n c k base : Nat} {ad : Addr} {lb : Lk} {kd : Int} {b : Bool} (d t : Tmp) (v : Value) (w w' : World) (hR : Rb w w') (hne : t ≠ d) (hc : ([] : List (Tmp × Tmp)).contains (d, t) = false) (h : F5c g9 n c k base ad lb kd b t v w) : F5c g9 n c k base ad lb kd b t v w' := by
  unfold F5c at *
  split at h <;> first | exact h | exact PlA.more h hR | exact fun hg => PlA.more (h hg) hR
set_option maxRecDepth 100000 in
set_option maxHeartbeats 8000000 in
theorem lawPlay (delay : Int) (A1 : Option Addr) (n1 c1 : Nat) (lose : List Int) (A2 : Option Addr) (n2 c2 : Nat) (ops : List Ox) (w : World) (hdw : (Lit.int .i64 delay).wf = true) (h1 : IAt w w.heap.size A1 n1 lose) (hc1 : n1 ≤ c1) (hm1 : c1 ≤ maxLen) (hi : ∀ x ∈ lose, i64In x) (h2 : LAt oC 2 w w.heap.size A2 n2 ops) (hx : ∀ o ∈ ops, OxAt w o) : Calls Try.prog 5 #[.int .i64 delay, .slice A1 n1 c1, .slice A2 n2 c2] w fun e w' => e = .returned (.bool true) ∧ Below w.heap.size w w' := by
  have hdi : i64In delay := wf_i64' hdw
  clear hdw
  have hn1 := Lib.hid h1.len
  have hn2 := Lib.hid h2.len
  have hlong := Lib.hid (long_any A2 n2 c2 ops w h2)
  replace h1 := Lib.hid h1
  replace h2 := Lib.hid h2
  replace hi := Lib.hid hi
  replace hx := Lib.hid hx
  have hb0 : Hid (Below w.heap.size w w) := Below.refl _ _
  by_cases q0 : 300 < n1
  · have q0i : (300 : Int) < (n1 : Int) := by omega
    have q0d : decide ((300 : Int) < (n1 : Int)) = true := by simp; omega
    go_enter Try.func5, Try.ntmps5
    go_wp2_with fail
    refine (ex_any _).mono ?_; rintro e w5 ⟨rfl, hq⟩
    go_wp2_with fail
    go_ret
    exact ⟨rfl, hb0.out.trans (hq.mono hb0.out.size)⟩
  have q0i : ¬ (300 : Int) < (n1 : Int) := by omega
  have q0d : decide ((300 : Int) < (n1 : Int)) = false := by simp; omega
  go_enter Try.func5, Try.ntmps5
  go_wp2_with fail
  refine hlong.out.mono ?_; rintro e w1 ⟨⟨b, rfl, hbl⟩, hq⟩
  clear hlong hb0
  have hb := Lib.hid hq
  cases b with
  | true =>
    go_wp2_with fail
    refine (ex_any _).mono ?_; rintro e w5 ⟨rfl, hq⟩
    go_wp2_with fail
    go_ret
    exact ⟨rfl, hb.out.trans (hq.mono hb.out.size)⟩
  | false =>
    have hn400 : n2 ≤ 400 := hbl rfl
    clear hbl hq
    obtain ⟨E, hE⟩ : ∃ E, E = (newR delay lose).2 := ⟨_, rfl⟩
    have hlens := Lib.hid (new_lens delay lose)
    go_wp2_with fail
    refine (new_any delay A1 n1 c1 lose w1 (h1.out.more hb.out) ⟨hc1, hm1⟩ hi.out hdi (by omega)).mono ?_; rintro e w2 ⟨la0, rfl, hoka, hva, hfa, hq⟩
    rw [← hE]
    simp only [lkV]
    have hA := Lib.hid (Blk.new w2 25 #[Value.int .i64 la0.now, Value.int .i64 la0.delay, Value.bool la0.cut, Value.int .i64 la0.count, Value.slice la0.lA la0.ln la0.lc, Value.slice la0.bA la0.bn la0.bc])
    have hoka2 : Hid (LkOk (w2.alloc (.cells #[Value.int .i64 la0.now, Value.int .i64 la0.delay, Value.bool la0.cut, Value.int .i64 la0.count, Value.slice la0.lA la0.ln la0.lc, Value.slice la0.bA la0.bn la0.bc] 25)) la0) := hoka.more (a1 w2 _)
    have hb2 : Hid (Below w.heap.size w (w2.alloc (.cells #[Value.int .i64 la0.now, Value.int .i64 la0.delay, Value.bool la0.cut, Value.int .i64 la0.count, Value.slice la0.lA la0.ln la0.lc, Value.slice la0.bA la0.bn la0.bc] 25))) := (hb.out.trans (hq.mono hb.out.size)).alloc (hb.out.trans (hq.mono hb.out.size)).size _
    have hlta := Lib.hid (LkOk_lt hoka)
    replace hva := Lib.hid hva
    replace hE := Lib.hid hE
    have hw2 : Hid (w.heap.size ≤ w2.heap.size) := (hb.out.trans (hq.mono hb.out.size)).size
    clear hq hoka hfa hb
    go_wp2_with fail
    obtain ⟨g7, hg7⟩ : ∃ g7, g7 = w2.heap.size := ⟨_, rfl⟩
    rw [← hg7] at hA hlta hw2 ⊢
    have hg7w := hw2
    generalize (w2.alloc (.cells #[Value.int .i64 la0.now, Value.int .i64 la0.delay, Value.bool la0.cut, Value.int .i64 la0.count, Value.slice la0.lA la0.ln la0.lc, Value.slice la0.bA la0.bn la0.bc] 25)) = w3 at *
    replace hg7 := Lib.hid hg7
    clear hw2
    refine (rnew_any delay A1 n1 c1 lose w3 (h1.out.more hb2.out) ⟨hc1, hm1⟩ hi.out hdi (by omega)).mono ?_; rintro e w4 ⟨lb0, rfl, hokb, hvb, hqb, hq⟩
    rw [← hE.out]
    simp only [lkV]
    have hA2 := Lib.hid ((hA.out.below hq hA.out.lt).alloc (.cells #[Value.int .i64 lb0.now, Value.int .i64 lb0.delay, Value.bool lb0.cut, Value.int .i64 lb0.count, Value.slice lb0.lA lb0.ln lb0.lc, Value.slice lb0.bA lb0.bn lb0.bc] 25))
    have hB2 := Lib.hid (Blk.new w4 25 #[Value.int .i64 lb0.now, Value.int .i64 lb0.delay, Value.bool lb0.cut, Value.int .i64 lb0.count, Value.slice lb0.lA lb0.ln lb0.lc, Value.slice lb0.bA lb0.bn lb0.bc])
    have hoka4 : Hid (LkOk (w4.alloc (.cells #[Value.int .i64 lb0.now, Value.int .i64 lb0.delay, Value.bool lb0.cut, Value.int .i64 lb0.count, Value.slice lb0.lA lb0.ln lb0.lc, Value.slice lb0.bA lb0.bn lb0.bc] 25)) la0) := (hoka2.out.more hq).more (a1 w4 _)
    have hokb4 : Hid (LkOk (w4.alloc (.cells #[Value.int .i64 lb0.now, Value.int .i64 lb0.delay, Value.bool lb0.cut, Value.int .i64 lb0.count, Value.slice lb0.lA lb0.ln lb0.lc, Value.slice lb0.bA lb0.bn lb0.bc] 25)) lb0) := hokb.more (a1 w4 _)
    have hb4 : Hid (Below w.heap.size w (w4.alloc (.cells #[Value.int .i64 lb0.now, Value.int .i64 lb0.delay, Value.bool lb0.cut, Value.int .i64 lb0.count, Value.slice lb0.lA lb0.ln lb0.lc, Value.slice lb0.bA lb0.bn lb0.bc] 25))) := (hb2.out.trans (hq.mono hb2.out.size)).alloc (hb2.out.trans (hq.mono hb2.out.size)).size _
    have hg79 : Hid (g7 < w4.heap.size) := Nat.lt_of_lt_of_le hA.out.lt hq.size
    have hltb := Lib.hid (LkOk_lt hokb)
    have hqb7 : Hid (LkQ (fun b => b ≠ g7) lb0) := hqb _ (fun h0 ad e => by have := h1.out.lt_ h0 ad e; have := hg7w.out; omega)
    replace hvb := Lib.hid hvb
    clear hq hokb hqb hA hoka2 hb2
    obtain ⟨a0, a1, a2, a3, a4, a5⟩ := (show (w4.alloc (.cells #[Value.int .i64 lb0.now, Value.int .i64 lb0.delay, Value.bool lb0.cut, Value.int .i64 lb0.count, Value.slice lb0.lA lb0.ln lb0.lc, Value.slice lb0.bA lb0.bn lb0.bc] 25)).cell? ⟨g7, 0, none⟩ = some (Value.int .i64 la0.now) ∧ (w4.alloc (.cells #[Value.int .i64 lb0.now, Value.int .i64 lb0.delay, Value.bool lb0.cut, Value.int .i64 lb0.count, Value.slice lb0.lA lb0.ln lb0.lc, Value.slice lb0.bA lb0.bn lb0.bc] 25)).cell? ⟨g7, 1, none⟩ = some (Value.int .i64 la0.delay) ∧ (w4.alloc (.cells #[Value.int .i64 lb0.now, Value.int .i64 lb0.delay, Value.bool lb0.cut, Value.int .i64 lb0.count, Value.slice lb0.lA lb0.ln lb0.lc, Value.slice lb0.bA lb0.bn lb0.bc] 25)).cell? ⟨g7, 2, none⟩ = some (Value.bool la0.cut) ∧ (w4.alloc (.cells #[Value.int .i64 lb0.now, Value.int .i64 lb0.delay, Value.bool lb0.cut, Value.int .i64 lb0.count, Value.slice lb0.lA lb0.ln lb0.lc, Value.slice lb0.bA lb0.bn lb0.bc] 25)).cell? ⟨g7, 3, none⟩ = some (Value.int .i64 la0.count) ∧ (w4.alloc (.cells #[Value.int .i64 lb0.now, Value.int .i64 lb0.delay, Value.bool lb0.cut, Value.int .i64 lb0.count, Value.slice lb0.lA lb0.ln lb0.lc, Value.slice lb0.bA lb0.bn lb0.bc] 25)).cell? ⟨g7, 4, none⟩ = some (Value.slice la0.lA la0.ln la0.lc) ∧ (w4.alloc (.cells #[Value.int .i64 lb0.now, Value.int .i64 lb0.delay, Value.bool lb0.cut, Value.int .i64 lb0.count, Value.slice lb0.lA lb0.ln lb0.lc, Value.slice lb0.bA lb0.bn lb0.bc] 25)).cell? ⟨g7, 5, none⟩ = some (Value.slice la0.bA la0.bn la0.bc) from ⟨hA2.out.cell 0, hA2.out.cell 1, hA2.out.cell 2, hA2.out.cell 3, hA2.out.cell 4, hA2.out.cell 5⟩)
    obtain ⟨b0, b1, b2, b3, b4, b5⟩ := (show (w4.alloc (.cells #[Value.int .i64 lb0.now, Value.int .i64 lb0.delay, Value.bool lb0.cut, Value.int .i64 lb0.count, Value.slice lb0.lA lb0.ln lb0.lc, Value.slice lb0.bA lb0.bn lb0.bc] 25)).cell? ⟨w4.heap.size, 0, none⟩ = some (Value.int .i64 lb0.now) ∧ (w4.alloc (.cells #[Value.int .i64 lb0.now, Value.int .i64 lb0.delay, Value.bool lb0.cut, Value.int .i64 lb0.count, Value.slice lb0.lA lb0.ln lb0.lc, Value.slice lb0.bA lb0.bn lb0.bc] 25)).cell? ⟨w4.heap.size, 1, none⟩ = some (Value.int .i64 lb0.delay) ∧ (w4.alloc (.cells #[Value.int .i64 lb0.now, Value.int .i64 lb0.delay, Value.bool lb0.cut, Value.int .i64 lb0.count, Value.slice lb0.lA lb0.ln lb0.lc, Value.slice lb0.bA lb0.bn lb0.bc] 25)).cell? ⟨w4.heap.size, 2, none⟩ = some (Value.bool lb0.cut) ∧ (w4.alloc (.cells #[Value.int .i64 lb0.now, Value.int .i64 lb0.delay, Value.bool lb0.cut, Value.int .i64 lb0.count, Value.slice lb0.lA lb0.ln lb0.lc, Value.slice lb0.bA lb0.bn lb0.bc] 25)).cell? ⟨w4.heap.size, 3, none⟩ = some (Value.int .i64 lb0.count) ∧ (w4.alloc (.cells #[Value.int .i64 lb0.now, Value.int .i64 lb0.delay, Value.bool lb0.cut, Value.int .i64 lb0.count, Value.slice lb0.lA lb0.ln lb0.lc, Value.slice lb0.bA lb0.bn lb0.bc] 25)).cell? ⟨w4.heap.size, 4, none⟩ = some (Value.slice lb0.lA lb0.ln lb0.lc) ∧ (w4.alloc (.cells #[Value.int .i64 lb0.now, Value.int .i64 lb0.delay, Value.bool lb0.cut, Value.int .i64 lb0.count, Value.slice lb0.lA lb0.ln lb0.lc, Value.slice lb0.bA lb0.bn lb0.bc] 25)).cell? ⟨w4.heap.size, 5, none⟩ = some (Value.slice lb0.bA lb0.bn lb0.bc) from ⟨hB2.out.cell 0, hB2.out.cell 1, hB2.out.cell 2, hB2.out.cell 3, hB2.out.cell 4, hB2.out.cell 5⟩)
    go_wp2_with fail
    clear a0 a1 a2 a3 a4 a5 b0 b1 b2 b3 b4 b5
    obtain ⟨g9, hg9⟩ : ∃ g9, g9 = w4.heap.size := ⟨_, rfl⟩
    rw [← hg9] at hB2 hg79 hltb ⊢
    have hg9w : Hid (w.heap.size ≤ g9) := Nat.le_of_lt (Nat.lt_of_le_of_lt hg7w.out hg79.out)
    have hne : Hid (g7 ≠ g9) := Nat.ne_of_lt hg79.out
    generalize (w4.alloc (.cells #[Value.int .i64 lb0.now, Value.int .i64 lb0.delay, Value.bool lb0.cut, Value.int .i64 lb0.count, Value.slice lb0.lA lb0.ln lb0.lc, Value.slice lb0.bA lb0.bn lb0.bc] 25)) = w5 at *
    replace hg9 := Lib.hid hg9
    refine (same_any la0 lb0 w5 hoka4.out hokb4.out (hva.out.trans hvb.out.symm) (by have e1 := congrArg Lv.lose hva.out; have e2 := hlens.out.1; have e3 := hn1.out; simp only [Lk.val] at e1; rw [e1]; omega) (by have e1 := congrArg Lv.box hva.out; have e2 := hlens.out.2; rw [e2] at e1; simp only [Lk.val] at e1; have := congrArg List.length e1; simp at this; simp [this])).mono ?_; rintro e w6 ⟨rfl, hq⟩
    have hA := Lib.hid (hA2.out.below hq hA2.out.lt)
    have hB := Lib.hid (hB2.out.below hq hB2.out.lt)
    have hoka := Lib.hid (hoka4.out.more hq)
    have hokb := Lib.hid (hokb4.out.more hq)
    have hb := Lib.hid (hb4.out.trans (hq.mono hb4.out.size))
    clear hq hA2 hB2 hoka4 hokb4 hb4
    by_cases hE0 : E ≠ 0
    · have hE1 : (E == 0) = false := by simpa using hE0
      go_wp2_with fail
      refine (ex_any _).mono ?_; rintro e w5 ⟨rfl, hq⟩
      go_wp2_with fail
      go_ret
      exact ⟨rfl, hb.out.trans (hq.mono hb.out.size)⟩
    replace hE0 : E = 0 := by simpa using hE0
    subst hE0
    obtain ⟨hnw, hvl⟩ := new_err delay lose hE.out.symm
    have hgd0 : Hid (Good la0.val) := by show Good _; rw [hva.out, hnw]; exact good_of _ hvl
    have hqa0 : Hid (LkQ (fun b => b ≠ g7 ∧ b ≠ g9) la0) := ⟨fun h0 ad e => by have := hlta.out.1 h0 ad e; have := hg79.out; exact ⟨by omega, by omega⟩, fun h0 ad e => by have := hlta.out.2.1 h0 ad e; have := hg79.out; exact ⟨by omega, by omega⟩, fun p hp h0 ad e => by have := hlta.out.2.2 p hp h0 ad e; have := hg79.out; exact ⟨by omega, by omega⟩⟩
    have hqb0 : Hid (LkQ (fun b => b ≠ g7 ∧ b ≠ g9) lb0) := ⟨fun h0 ad e => ⟨hqb7.out.1 h0 ad e, by have := hltb.out.1 h0 ad e; omega⟩, fun h0 ad e => ⟨hqb7.out.2.1 h0 ad e, by have := hltb.out.2.1 h0 ad e; omega⟩, fun p hp h0 ad e => ⟨hqb7.out.2.2 p hp h0 ad e, by have := hltb.out.2.2 p hp h0 ad e; omega⟩⟩
    have hvv0 : Hid (la0.val = lb0.val) := hva.out.trans hvb.out.symm
    clear hva hvb hlta hltb hqb7 hnw hvl hE hlens
    go_wp2_with fail
    go_loopw [48] (fun i wr => ∃ (k : Nat) (la lb : Lk), k ≤ n2 ∧ i = .int .i64 k ∧ Hid (Blk wr g7 25 #[Value.int .i64 la.now, Value.int .i64 la.delay, Value.bool la.cut, Value.int .i64 la.count, Value.slice la.lA la.ln la.lc, Value.slice la.bA la.bn la.bc]) ∧ Hid (Blk wr g9 25 #[Value.int .i64 lb.now, Value.int .i64 lb.delay, Value.bool lb.cut, Value.int .i64 lb.count, Value.slice lb.lA lb.ln lb.lc, Value.slice lb.bA lb.bn lb.bc]) ∧ Hid (LkOk wr la) ∧ Hid (LkOk wr lb) ∧ Hid (la.val = lb.val) ∧ Hid (Good la.val) ∧ Hid (LkQ (fun b => b ≠ g7 ∧ b ≠ g9) la) ∧ Hid (LkQ (fun b => b ≠ g7 ∧ b ≠ g9) lb) ∧ Hid (Below w.heap.size w wr)) (fun i _ => n2 - (intOf i).toNat)
    case atStart => exact ⟨0, la0, lb0, Nat.zero_le _, rfl, hA.out, hB.out, hoka.out, hokb.out, hvv0.out, hgd0.out, hqa0.out, hqb0.out, hb.out⟩
    clear hA hB hoka hokb hvv0 hgd0 hqa0 hqb0 hb
    case round =>

      obtain ⟨k, la, lb, hkn, rfl, hA, hB, hoka, hokb, hve, hgd, hqa, hqb, hb⟩ := hrel
      by_cases hlt : k < n2
      · have hkl : k < ops.length := by have := hn2.out; omega
        have hk0 : (0 : Int) ≤ k := by omega
        have hk1 : (k : Int) < n2 := by omega
        obtain ⟨ad, hAd, -, -, -⟩ := ox_cells (h2.out.below hb.out (Nat.le_refl _)) hlt
        have hox := Lib.hid (hx.out _ (List.getElem_mem hkl))
        have hop0 : Hid (∀ wz, Below w.heap.size w wz → wz.cell? (ad.add (k * 2)) = some (Value.int .i64 ops[k].kind) ∧ wz.cell? ⟨(ad.add (k * 2)).block, (ad.add (k * 2)).off + 1, none⟩ = some (Value.slice ops[k].A ops[k].n ops[k].c)) := fun wz hz => by
          obtain ⟨x1, hA', -, q⟩ := ox_cells (h2.out.below hz (Nat.le_refl _)) hlt
          rw [hAd] at hA'; cases hA'
          exact q
        generalize ops[k] = o at *
        obtain ⟨kd, oA, on, oc, od⟩ := o
        obtain rfl : od.length = on := hox.out.1.1.len
        have hop : Hid (∀ wz, Below w.heap.size w wz → wz.cell? (ad.add (k * 2)) = some (Value.int .i64 kd) ∧ wz.cell? ⟨(ad.add (k * 2)).block, (ad.add (k * 2)).off + 1, none⟩ = some (Value.slice oA od.length oc)) := hop0.out
        clear hop0
        subst hAd
        obtain ⟨r, hr⟩ : ∃ r, r = playL la.val kd od := ⟨_, rfl⟩
        have hgp : Hid (Good r.1) := by show Good _; rw [hr]; exact hgd.out.play kd od
        have hfew : Hid (r.2.1.length ≤ 256) := by show _ ≤ _; rw [hr]; exact Nat.le_trans (play_few la.val kd od) hgd.out.few
        have hcell7 : Hid (∀ wz, Below wr.heap.size wr wz → wz.cell? ⟨g7, 0, none⟩ = some (Value.int .i64 la.now) ∧ wz.cell? ⟨g7, 1, none⟩ = some (Value.int .i64 la.delay) ∧ wz.cell? ⟨g7, 2, none⟩ = some (Value.bool la.cut) ∧ wz.cell? ⟨g7, 3, none⟩ = some (Value.int .i64 la.count) ∧ wz.cell? ⟨g7, 4, none⟩ = some (Value.slice la.lA la.ln la.lc) ∧ wz.cell? ⟨g7, 5, none⟩ = some (Value.slice la.bA la.bn la.bc)) := fun wz hz => by
          have q := hA.out.below hz hA.out.lt
          exact ⟨q.cell 0, q.cell 1, q.cell 2, q.cell 3, q.cell 4, q.cell 5⟩
        have hcell7z : Hid (∀ wz, Below wr.heap.size wr wz → wz.cell? ⟨g7, 0, none⟩ = some (Value.int .i64 la.now) ∧ wz.cell? ⟨g7, 1, none⟩ = some (Value.int .i64 la.delay) ∧ wz.cell? ⟨g7, 2, none⟩ = some (Value.bool la.cut) ∧ wz.cell? ⟨g7, 3, none⟩ = some (Value.int .i64 la.count) ∧ wz.cell? ⟨g7, 4, none⟩ = some (Value.slice la.lA la.ln la.lc) ∧ wz.cell? ⟨g7, 5, none⟩ = some (Value.slice la.bA la.bn la.bc) ∧ wz.frozen? ⟨g7, 0, none⟩ = false ∧ wz.frozen? ⟨g7, 1, none⟩ = false ∧ wz.frozen? ⟨g7, 2, none⟩ = false ∧ wz.frozen? ⟨g7, 3, none⟩ = false ∧ wz.frozen? ⟨g7, 4, none⟩ = false ∧ wz.frozen? ⟨g7, 5, none⟩ = false) := fun wz hz => by
          have q := hA.out.below hz hA.out.lt
          exact ⟨q.cell 0, q.cell 1, q.cell 2, q.cell 3, q.cell 4, q.cell 5, q.frozen 0, q.frozen 1, q.frozen 2, q.frozen 3, q.frozen 4, q.frozen 5⟩
        have hltB : Hid (g7 < wr.heap.size) := hA.out.lt
        have hcello : Hid (∀ wz, Below wr.heap.size wr wz → wz.cell? (ad.add (k * 2)) = some (Value.int .i64 kd) ∧ wz.cell? ⟨(ad.add (k * 2)).block, (ad.add (k * 2)).off + 1, none⟩ = some (Value.slice oA od.length oc)) := fun wz hz => hop.out wz (hb.out.trans (hz.mono hb.out.size))
        have hplay : Hid (∀ wz, Below wr.heap.size wr wz → Calls Try.prog 19 #[lkV la, .agg #[.int .i64 kd, .slice oA od.length oc]] wz fun e w' => (∃ v9, e = .returned v9 ∧ PlT wr.heap.size g7 la r v9 w') ∧ Below wz.heap.size wz w') := fun wz hz => (play_any la ⟨kd, oA, od.length, oc, od⟩ wz (hoka.out.more hz) (sm_of hgd.out.sm) (hox.out.more (hb.out.trans (hz.mono hb.out.size))) hgd.out.nd).mono (by
          rintro e w' ⟨⟨l', A, n, c, C, he, p1, p2, p3, p4, p5, p6⟩, p7⟩
          rw [hr]
          exact ⟨⟨_, he, l', A, n, c, C, rfl, p1, p2, p3.mono hz.size, fun b hx => (p4 b hx).mono hz.size, p5, p6.base hz.size, p6 _ hqa.out.left (fun b hb8 => by have := hA.out.lt; have := hz.size; omega)⟩, p7⟩)
        replace hr := Lib.hid hr
        go_wp2_with fail
        refine RW.region [] [] 12 10 (F := fun _ => F5a g7 n2 c2 k wr.heap.size ad la r (.agg #[.int .i64 kd, .slice oA od.length oc])) (W := fun ph wz => if ph = true then ∃ (w8 : World) (l2 : Lk), Below wr.heap.size wr w8 ∧ wz = ((((((w8.setCell ⟨g7, 0, none⟩ (Value.int .i64 l2.now)).setCell ⟨g7, 1, none⟩ (Value.int .i64 l2.delay)).setCell ⟨g7, 2, none⟩ (Value.bool l2.cut)).setCell ⟨g7, 3, none⟩ (Value.int .i64 l2.count)).setCell ⟨g7, 4, none⟩ (Value.slice l2.lA l2.ln l2.lc)).setCell ⟨g7, 5, none⟩ (Value.slice l2.bA l2.bn l2.bc)) ∧ LkOk w8 l2 ∧ l2.val = r.1 ∧ LkK wr.heap.size la l2 ∧ LkQ (fun b => b ≠ g7) l2 else Below wr.heap.size wr wz) (R := fun _ => Rb) rfl (fun _ => F5a_more) (by kernel_rfl) (by kernel_rfl) (by kernel_rfl) (by kernel_rfl) (by kernel_rfl) (by kernel_rfl) (by decide) rfl rfl ?_ ?_ ?_ ?_ ?_
        · show if false = true then _ else _
          rw [if_neg (by decide)]
          exact (Below.refl _ _).drew
        · intro t ht
          unfold F5a
          split <;> first | trivial | exact rfl | (exact absurd ht (by decide))
        · intro ph i o hi his hpa ho
          have hcs : i = 0 ∨ i = 1 ∨ i = 2 ∨ i = 3 ∨ i = 4 ∨ i = 5 ∨ i = 6 ∨ i = 7 ∨ i = 8 ∨ i = 9 ∨ i = 11 := by omega
          rcases hcs with rfl | rfl | rfl | rfl | rfl | rfl | rfl | rfl | rfl | rfl | rfl <;> (injection ho with ho; subst ho)
          · have hph : ph = false := by
              cases ph with
              | false => rfl
              | true => exact absurd ((show RW.ahead _ 10 0 = true by kernel_rfl).symm.trans (hpa rfl)) (by decide)
            subst hph
            intro a w2 hw0 _ hf K hK
            have hK' : ∀ d v w', _ = some d → F5a g7 n2 c2 k wr.heap.size ad la r (.agg #[.int .i64 kd, .slice oA od.length oc]) d v w' → (Below wr.heap.size wr w') → Rb w2 w' → _ → K (a.put (some d) v) w' := fun d v w' h1 h2 h3 h4 h5 => hK d v w' h1 h2 (by simpa using h3) h4 h5
            have hw : Below wr.heap.size wr w2 := by simpa using hw0
            have f0 := hf 7 rfl
            simp only [F5a] at f0
            clear hf
            obtain ⟨a0, a1, a2, a3, a4, a5⟩ := hcell7.out w2 hw
            go_simp
            exact hK' _ _ _ rfl rfl hw (Below.refl _ _) (fun h => absurd h (by decide))
          · have hph : ph = false := by
              cases ph with
              | false => rfl
              | true => exact absurd ((show RW.ahead _ 10 1 = true by kernel_rfl).symm.trans (hpa rfl)) (by decide)
            subst hph
            intro a w2 hw0 _ hf K hK
            have hK' : ∀ d v w', _ = some d → F5a g7 n2 c2 k wr.heap.size ad la r (.agg #[.int .i64 kd, .slice oA od.length oc]) d v w' → (Below wr.heap.size wr w') → Rb w2 w' → _ → K (a.put (some d) v) w' := fun d v w' h1 h2 h3 h4 h5 => hK d v w' h1 h2 (by simpa using h3) h4 h5
            have hw : Below wr.heap.size wr w2 := by simpa using hw0
            have f0 := hf 2 rfl
            simp only [F5a] at f0
            clear hf
            go_simp
            exact hK' _ _ _ rfl rfl hw (Below.refl _ _) (fun h => absurd h (by decide))
          · have hph : ph = false := by
              cases ph with
              | false => rfl
              | true => exact absurd ((show RW.ahead _ 10 2 = true by kernel_rfl).symm.trans (hpa rfl)) (by decide)
            subst hph
            intro a w2 hw0 _ hf K hK
            have hK' : ∀ d v w', _ = some d → F5a g7 n2 c2 k wr.heap.size ad la r (.agg #[.int .i64 kd, .slice oA od.length oc]) d v w' → (Below wr.heap.size wr w') → Rb w2 w' → _ → K (a.put (some d) v) w' := fun d v w' h1 h2 h3 h4 h5 => hK d v w' h1 h2 (by simpa using h3) h4 h5
            have hw : Below wr.heap.size wr w2 := by simpa using hw0
            have f0 := hf 11 rfl
            simp only [F5a] at f0
            clear hf
            go_simp
            exact hK' _ _ _ rfl rfl hw (Below.refl _ _) (fun h => absurd h (by decide))
          · have hph : ph = false := by
              cases ph with
              | false => rfl
              | true => exact absurd ((show RW.ahead _ 10 3 = true by kernel_rfl).symm.trans (hpa rfl)) (by decide)
            subst hph
            intro a w2 hw0 _ hf K hK
            have hK' : ∀ d v w', _ = some d → F5a g7 n2 c2 k wr.heap.size ad la r (.agg #[.int .i64 kd, .slice oA od.length oc]) d v w' → (Below wr.heap.size wr w') → Rb w2 w' → _ → K (a.put (some d) v) w' := fun d v w' h1 h2 h3 h4 h5 => hK d v w' h1 h2 (by simpa using h3) h4 h5
            have hw : Below wr.heap.size wr w2 := by simpa using hw0
            have f0 := hf 53 rfl
            have f1 := hf 54 rfl
            simp only [F5a] at f0 f1
            clear hf
            go_simp
            exact hK' _ _ _ rfl rfl hw (Below.refl _ _) (fun h => absurd h (by decide))
          · have hph : ph = false := by
              cases ph with
              | false => rfl
              | true => exact absurd ((show RW.ahead _ 10 4 = true by kernel_rfl).symm.trans (hpa rfl)) (by decide)
            subst hph
            intro a w2 hw0 _ hf K hK
            have hK' : ∀ d v w', _ = some d → F5a g7 n2 c2 k wr.heap.size ad la r (.agg #[.int .i64 kd, .slice oA od.length oc]) d v w' → (Below wr.heap.size wr w') → Rb w2 w' → _ → K (a.put (some d) v) w' := fun d v w' h1 h2 h3 h4 h5 => hK d v w' h1 h2 (by simpa using h3) h4 h5
            have hw : Below wr.heap.size wr w2 := by simpa using hw0
            have f0 := hf 55 rfl
            simp only [F5a] at f0
            clear hf
            obtain ⟨o0, o1⟩ := hcello.out w2 hw
            go_simp
            exact hK' _ _ _ rfl rfl hw (Below.refl _ _) (fun h => absurd h (by decide))
          · have hph : ph = false := by
              cases ph with
              | false => rfl
              | true => exact absurd ((show RW.ahead _ 10 5 = true by kernel_rfl).symm.trans (hpa rfl)) (by decide)
            subst hph
            intro a w2 hw0 _ hf K hK
            have hK' : ∀ d v w', _ = some d → F5a g7 n2 c2 k wr.heap.size ad la r (.agg #[.int .i64 kd, .slice oA od.length oc]) d v w' → (Below wr.heap.size wr w') → Rb w2 w' → _ → K (a.put (some d) v) w' := fun d v w' h1 h2 h3 h4 h5 => hK d v w' h1 h2 (by simpa using h3) h4 h5
            have hw : Below wr.heap.size wr w2 := by simpa using hw0
            have f0 := hf 52 rfl
            have f1 := hf 56 rfl
            simp only [F5a] at f0 f1
            clear hf
            go_simp
            refine (hplay.out w2 hw).mono ?_; rintro e w5 ⟨hP, hbq⟩
            obtain ⟨v9, rfl, hT⟩ := hP
            exact hK' _ _ _ rfl hT (hw.trans (hbq.mono hw.size)) hbq (fun h => absurd h (by decide))
          · have hph : ph = false := by
              cases ph with
              | false => rfl
              | true => exact absurd ((show RW.ahead _ 10 6 = true by kernel_rfl).symm.trans (hpa rfl)) (by decide)
            subst hph
            intro a w2 hw0 _ hf K hK
            have hK' : ∀ d v w', _ = some d → F5a g7 n2 c2 k wr.heap.size ad la r (.agg #[.int .i64 kd, .slice oA od.length oc]) d v w' → (Below wr.heap.size wr w') → Rb w2 w' → _ → K (a.put (some d) v) w' := fun d v w' h1 h2 h3 h4 h5 => hK d v w' h1 h2 (by simpa using h3) h4 h5
            have hw : Below wr.heap.size wr w2 := by simpa using hw0
            have f0 := hf 57 rfl
            simp only [F5a] at f0
            clear hf
            have hT := Lib.hid f0
            clear f0
            go_simp
            exact hK' _ _ _ rfl hT.out hw (Below.refl _ _) (fun h => absurd h (by decide))
          · have hph : ph = false := by
              cases ph with
              | false => rfl
              | true => exact absurd ((show RW.ahead _ 10 7 = true by kernel_rfl).symm.trans (hpa rfl)) (by decide)
            subst hph
            intro a w2 hw0 _ hf K hK
            have hK' : ∀ d v w', _ = some d → F5a g7 n2 c2 k wr.heap.size ad la r (.agg #[.int .i64 kd, .slice oA od.length oc]) d v w' → (Below wr.heap.size wr w') → Rb w2 w' → _ → K (a.put (some d) v) w' := fun d v w' h1 h2 h3 h4 h5 => hK d v w' h1 h2 (by simpa using h3) h4 h5
            have hw : Below wr.heap.size wr w2 := by simpa using hw0
            have f0 := hf 51 rfl
            simp only [F5a] at f0
            clear hf
            obtain ⟨l', A, n', c', C, hv, h1, h2, h3, h4, h5, h6⟩ := f0
            replace h1 := Lib.hid h1
            replace h2 := Lib.hid h2
            replace h3 := Lib.hid h3
            replace h4 := Lib.hid h4
            replace h5 := Lib.hid h5
            replace h6 := Lib.hid h6
            simp only [lkV] at hv
            go_simp
            exact hK' _ _ _ rfl ⟨l', rfl, h1.out, h2.out, h6.out.1, h6.out.2⟩ hw (Below.refl _ _) (fun h => absurd h (by decide))
          · intro a w2 hw _ hf K hK
            have f0 := hf 51 rfl
            simp only [F5a] at f0
            clear hf
            obtain ⟨l', A, n', c', C, hv, h1, h2, h3, h4, h5, h6⟩ := f0
            replace h1 := Lib.hid h1
            replace h2 := Lib.hid h2
            replace h3 := Lib.hid h3
            replace h4 := Lib.hid h4
            replace h5 := Lib.hid h5
            replace h6 := Lib.hid h6
            simp only [lkV] at hv
            go_simp
            exact hK _ _ _ rfl ⟨A, n', c', C, rfl, h3.out, h4.out, h5.out⟩ hw (Below.refl _ _) (fun h => absurd h (by decide))
          · intro a w2 hw _ hf K hK
            have f0 := hf 51 rfl
            simp only [F5a] at f0
            clear hf
            obtain ⟨l', A, n', c', C, hv, h1, h2, h3, h4, h5, h6⟩ := f0
            replace h1 := Lib.hid h1
            replace h2 := Lib.hid h2
            replace h3 := Lib.hid h3
            replace h4 := Lib.hid h4
            replace h5 := Lib.hid h5
            replace h6 := Lib.hid h6
            simp only [lkV] at hv
            go_simp
            exact hK _ _ _ rfl rfl hw (Below.refl _ _) (fun h => absurd h (by decide))
          · intro a w2 hw _ hf K hK
            have f0 := hf 59 rfl
            simp only [F5a] at f0
            clear hf
            obtain ⟨A, n', c', C, hv, h3, h4, h5⟩ := f0
            replace h3 := Lib.hid h3
            replace h4 := Lib.hid h4
            replace h5 := Lib.hid h5
            go_simp
            exact hK _ _ _ rfl ⟨A, n', c', C, rfl, h3.out, h4.out, h5.out⟩ hw (Below.refl _ _) (fun h => absurd h (by decide))
        · intro o ho a w2 hw0 hf K hK
          injection ho with ho
          subst ho
          have hw : Below wr.heap.size wr w2 := by simpa using hw0
          have f0 := hf 7 rfl
          have f1 := hf 58 rfl
          simp only [F5a] at f0 f1
          clear hf
          obtain ⟨l9, hl9, q1, q2, q3, q4⟩ := f1
          have q1 := Lib.hid q1
          have q2 := Lib.hid q2
          have q3 := Lib.hid q3
          have q4 := Lib.hid q4
          simp only [lkV] at hl9
          obtain ⟨a0, a1, a2, a3, a4, a5, z0, z1, z2, z3, z4, z5⟩ := hcell7z.out w2 hw
          have hg1 := Lib.hid (grown_set6 w2 g7 (Value.int .i64 l9.now) (Value.int .i64 l9.delay) (Value.bool l9.cut) (Value.int .i64 l9.count) (Value.slice l9.lA l9.ln l9.lc) (Value.slice l9.bA l9.bn l9.bc))
          go_simp
          exact hK undef _ (by show if true = true then _ else _; rw [if_pos rfl]; exact ⟨w2, l9, hw, rfl, q1.out, q2.out, q3.out, q4.out⟩) (fun t u hF => F5a_st hltB.out t u w2 _ hg1.out hF)
        · intro a' w9 hd hs hw hout hf
          replace hw : ∃ (w8 : World) (l2 : Lk), Below wr.heap.size wr w8 ∧ w9 = ((((((w8.setCell ⟨g7, 0, none⟩ (Value.int .i64 l2.now)).setCell ⟨g7, 1, none⟩ (Value.int .i64 l2.delay)).setCell ⟨g7, 2, none⟩ (Value.bool l2.cut)).setCell ⟨g7, 3, none⟩ (Value.int .i64 l2.count)).setCell ⟨g7, 4, none⟩ (Value.slice l2.lA l2.ln l2.lc)).setCell ⟨g7, 5, none⟩ (Value.slice l2.bA l2.bn l2.bc)) ∧ LkOk w8 l2 ∧ l2.val = r.1 ∧ LkK wr.heap.size la l2 ∧ LkQ (fun b => b ≠ g7) l2 := by simpa using hw
          have h12 := hf 11 12 (by decide) rfl rfl
          simp only [F5a] at h12
          have h60 := hf 9 60 (by decide) rfl rfl
          simp only [F5a] at h60
          have e0 : _ = some (Value.int .i64 delay) := hout 0 rfl
          have e1 : _ = some (Value.slice A1 n1 c1) := hout 1 rfl
          have e2 : _ = some (Value.slice (some ad) n2 c2) := hout 2 rfl
          have e7 : _ = some (Value.pointer (some ⟨g7, 0, none⟩)) := hout 7 rfl
          have e9 : _ = some (Value.pointer (some ⟨g9, 0, none⟩)) := hout 9 rfl
          have e11 : _ = some (Value.int .i64 (k : Int)) := hout 11 rfl
          have e13 : _ = some (Value.slice none 0 0) := hout 13 rfl
          have e3 : _ = some (undef) := hout 3 rfl
          have e4 : _ = some (undef) := hout 4 rfl
          have e5 : _ = some (undef) := hout 5 rfl
          have e14 : _ = some (Value.slice A1 n1 c1) := hout 14 rfl
          have e15 : _ = some (Value.int .i64 n1) := hout 15 rfl
          have e16 : _ = some (Value.bool false) := hout 16 rfl
          have e17 : _ = some (Value.bool false) := hout 17 rfl
          have e18 : _ = some (Value.slice (some ad) n2 c2) := hout 18 rfl
          have e19 : _ = some (Value.bool false) := hout 19 rfl
          have e20 : _ = some (Value.bool false) := hout 20 rfl
          have e21 : _ = some (undef) := hout 21 rfl
          have e22 : _ = some (Value.tuple #[.agg #[Value.int .i64 la0.now, Value.int .i64 la0.delay, Value.bool la0.cut, Value.int .i64 la0.count, Value.slice la0.lA la0.ln la0.lc, Value.slice la0.bA la0.bn la0.bc], .int .i64 0]) := hout 22 rfl
          have e23 : _ = some (Value.int .i64 delay) := hout 23 rfl
          have e24 : _ = some (Value.slice A1 n1 c1) := hout 24 rfl
          have e25 : _ = some (Value.tuple #[.agg #[Value.int .i64 la0.now, Value.int .i64 la0.delay, Value.bool la0.cut, Value.int .i64 la0.count, Value.slice la0.lA la0.ln la0.lc, Value.slice la0.bA la0.bn la0.bc], .int .i64 0]) := hout 25 rfl
          have e26 : _ = some (Value.agg #[Value.int .i64 la0.now, Value.int .i64 la0.delay, Value.bool la0.cut, Value.int .i64 la0.count, Value.slice la0.lA la0.ln la0.lc, Value.slice la0.bA la0.bn la0.bc]) := hout 26 rfl
          have e27 : _ = some (Value.int .i64 0) := hout 27 rfl
          have e28 : _ = some (Value.tuple #[.agg #[Value.int .i64 lb0.now, Value.int .i64 lb0.delay, Value.bool lb0.cut, Value.int .i64 lb0.count, Value.slice lb0.lA lb0.ln lb0.lc, Value.slice lb0.bA lb0.bn lb0.bc], .int .i64 0]) := hout 28 rfl
          have e29 : _ = some (Value.int .i64 delay) := hout 29 rfl
          have e30 : _ = some (Value.slice A1 n1 c1) := hout 30 rfl
          have e31 : _ = some (Value.tuple #[.agg #[Value.int .i64 lb0.now, Value.int .i64 lb0.delay, Value.bool lb0.cut, Value.int .i64 lb0.count, Value.slice lb0.lA lb0.ln lb0.lc, Value.slice lb0.bA lb0.bn lb0.bc], .int .i64 0]) := hout 31 rfl
          have e32 : _ = some (Value.agg #[Value.int .i64 lb0.now, Value.int .i64 lb0.delay, Value.bool lb0.cut, Value.int .i64 lb0.count, Value.slice lb0.lA lb0.ln lb0.lc, Value.slice lb0.bA lb0.bn lb0.bc]) := hout 32 rfl
          have e33 : _ = some (Value.int .i64 0) := hout 33 rfl
          have e34 : _ = some (Value.int .i64 0) := hout 34 rfl
          have e35 : _ = some (Value.int .i64 0) := hout 35 rfl
          have e36 : _ = some (Value.bool false) := hout 36 rfl
          have e37 : _ = some (Value.bool false) := hout 37 rfl
          have e38 : _ = some (Value.agg #[Value.int .i64 la0.now, Value.int .i64 la0.delay, Value.bool la0.cut, Value.int .i64 la0.count, Value.slice la0.lA la0.ln la0.lc, Value.slice la0.bA la0.bn la0.bc]) := hout 38 rfl
          have e39 : _ = some (Value.agg #[Value.int .i64 lb0.now, Value.int .i64 lb0.delay, Value.bool lb0.cut, Value.int .i64 lb0.count, Value.slice lb0.lA lb0.ln lb0.lc, Value.slice lb0.bA lb0.bn lb0.bc]) := hout 39 rfl
          have e40 : _ = some (Value.bool true) := hout 40 rfl
          have e41 : _ = some (Value.bool false) := hout 41 rfl
          have e42 : _ = some (Value.bool false) := hout 42 rfl
          have e43 : _ = some (Value.int .i64 0) := hout 43 rfl
          have e44 : _ = some (Value.bool false) := hout 44 rfl
          have e45 : _ = some (undef) := hout 45 rfl
          have e46 : _ = some (Value.slice (some ad) n2 c2) := hout 46 rfl
          have e47 : _ = some (Value.int .i64 n2) := hout 47 rfl
          have e48 : _ = some (Value.int .i64 (k : Int)) := hout 48 rfl
          have e117 : _ = some (undef) := hout 117 rfl
          obtain ⟨tm, df⟩ := a'
          simp only at hd hs h12 h60 e0 e1 e2 e7 e9 e11 e13 e3 e4 e5 e14 e15 e16 e17 e18 e19 e20 e21 e22 e23 e24 e25 e26 e27 e28 e29 e30 e31 e32 e33 e34 e35 e36 e37 e38 e39 e40 e41 e42 e43 e44 e45 e46 e47 e48 e117
          have e := lit_arr tm 118 hs
          rw [show (List.range 118).map (fun i => tm[i]?.getD undef) = [tm[0]?.getD undef, tm[1]?.getD undef, tm[2]?.getD undef, tm[3]?.getD undef, tm[4]?.getD undef, tm[5]?.getD undef, tm[6]?.getD undef, tm[7]?.getD undef, tm[8]?.getD undef, tm[9]?.getD undef, tm[10]?.getD undef, tm[11]?.getD undef, tm[12]?.getD undef, tm[13]?.getD undef, tm[14]?.getD undef, tm[15]?.getD undef, tm[16]?.getD undef, tm[17]?.getD undef, tm[18]?.getD undef, tm[19]?.getD undef, tm[20]?.getD undef, tm[21]?.getD undef, tm[22]?.getD undef, tm[23]?.getD undef, tm[24]?.getD undef, tm[25]?.getD undef, tm[26]?.getD undef, tm[27]?.getD undef, tm[28]?.getD undef, tm[29]?.getD undef, tm[30]?.getD undef, tm[31]?.getD undef, tm[32]?.getD undef, tm[33]?.getD undef, tm[34]?.getD undef, tm[35]?.getD undef, tm[36]?.getD undef, tm[37]?.getD undef, tm[38]?.getD undef, tm[39]?.getD undef, tm[40]?.getD undef, tm[41]?.getD undef, tm[42]?.getD undef, tm[43]?.getD undef, tm[44]?.getD undef, tm[45]?.getD undef, tm[46]?.getD undef, tm[47]?.getD undef, tm[48]?.getD undef, tm[49]?.getD undef, tm[50]?.getD undef, tm[51]?.getD undef, tm[52]?.getD undef, tm[53]?.getD undef, tm[54]?.getD undef, tm[55]?.getD undef, tm[56]?.getD undef, tm[57]?.getD undef, tm[58]?.getD undef, tm[59]?.getD undef, tm[60]?.getD undef, tm[61]?.getD undef, tm[62]?.getD undef, tm[63]?.getD undef, tm[64]?.getD undef, tm[65]?.getD undef, tm[66]?.getD undef, tm[67]?.getD undef, tm[68]?.getD undef, tm[69]?.getD undef, tm[70]?.getD undef, tm[71]?.getD undef, tm[72]?.getD undef, tm[73]?.getD undef, tm[74]?.getD undef, tm[75]?.getD undef, tm[76]?.getD undef, tm[77]?.getD undef, tm[78]?.getD undef, tm[79]?.getD undef, tm[80]?.getD undef, tm[81]?.getD undef, tm[82]?.getD undef, tm[83]?.getD undef, tm[84]?.getD undef, tm[85]?.getD undef, tm[86]?.getD undef, tm[87]?.getD undef, tm[88]?.getD undef, tm[89]?.getD undef, tm[90]?.getD undef, tm[91]?.getD undef, tm[92]?.getD undef, tm[93]?.getD undef, tm[94]?.getD undef, tm[95]?.getD undef, tm[96]?.getD undef, tm[97]?.getD undef, tm[98]?.getD undef, tm[99]?.getD undef, tm[100]?.getD undef, tm[101]?.getD undef, tm[102]?.getD undef, tm[103]?.getD undef, tm[104]?.getD undef, tm[105]?.getD undef, tm[106]?.getD undef, tm[107]?.getD undef, tm[108]?.getD undef, tm[109]?.getD undef, tm[110]?.getD undef, tm[111]?.getD undef, tm[112]?.getD undef, tm[113]?.getD undef, tm[114]?.getD undef, tm[115]?.getD undef, tm[116]?.getD undef, tm[117]?.getD undef] from rfl] at e
          simp only [h60, e0, e1, e2, e7, e9, e11, e13, e3, e4, e5, e14, e15, e16, e17, e18, e19, e20, e21, e22, e23, e24, e25, e26, e27, e28, e29, e30, e31, e32, e33, e34, e35, e36, e37, e38, e39, e40, e41, e42, e43, e44, e45, e46, e47, e48, e117, Option.getD_some] at e
          clear hf hout hs
          rw [e, hd]
          clear e hd h60 e0 e1 e2 e7 e9 e11 e13 e3 e4 e5 e14 e15 e16 e17 e18 e19 e20 e21 e22 e23 e24 e25 e26 e27 e28 e29 e30 e31 e32 e33 e34 e35 e36 e37 e38 e39 e40 e41 e42 e43 e44 e45 e46 e47 e48 e117
          generalize tm[12]?.getD undef = u12x at h12 ⊢
          generalize tm[6]?.getD undef = u6x, tm[8]?.getD undef = u8x, tm[10]?.getD undef = u10x, tm[49]?.getD undef = u49x, tm[50]?.getD undef = u50x, tm[51]?.getD undef = u51x, tm[52]?.getD undef = u52x, tm[53]?.getD undef = u53x, tm[54]?.getD undef = u54x, tm[55]?.getD undef = u55x, tm[56]?.getD undef = u56x, tm[57]?.getD undef = u57x, tm[58]?.getD undef = u58x, tm[59]?.getD undef = u59x, tm[61]?.getD undef = u61x, tm[62]?.getD undef = u62x, tm[63]?.getD undef = u63x, tm[64]?.getD undef = u64x, tm[65]?.getD undef = u65x, tm[66]?.getD undef = u66x, tm[67]?.getD undef = u67x, tm[68]?.getD undef = u68x, tm[69]?.getD undef = u69x, tm[70]?.getD undef = u70x, tm[71]?.getD undef = u71x, tm[72]?.getD undef = u72x, tm[73]?.getD undef = u73x, tm[74]?.getD undef = u74x, tm[75]?.getD undef = u75x, tm[76]?.getD undef = u76x, tm[77]?.getD undef = u77x, tm[78]?.getD undef = u78x, tm[79]?.getD undef = u79x, tm[80]?.getD undef = u80x, tm[81]?.getD undef = u81x, tm[82]?.getD undef = u82x, tm[83]?.getD undef = u83x, tm[84]?.getD undef = u84x, tm[85]?.getD undef = u85x, tm[86]?.getD undef = u86x, tm[87]?.getD undef = u87x, tm[88]?.getD undef = u88x, tm[89]?.getD undef = u89x, tm[90]?.getD undef = u90x, tm[91]?.getD undef = u91x, tm[92]?.getD undef = u92x, tm[93]?.getD undef = u93x, tm[94]?.getD undef = u94x, tm[95]?.getD undef = u95x, tm[96]?.getD undef = u96x, tm[97]?.getD undef = u97x, tm[98]?.getD undef = u98x, tm[99]?.getD undef = u99x, tm[100]?.getD undef = u100x, tm[101]?.getD undef = u101x, tm[102]?.getD undef = u102x, tm[103]?.getD undef = u103x, tm[104]?.getD undef = u104x, tm[105]?.getD undef = u105x, tm[106]?.getD undef = u106x, tm[107]?.getD undef = u107x, tm[108]?.getD undef = u108x, tm[109]?.getD undef = u109x, tm[110]?.getD undef = u110x, tm[111]?.getD undef = u111x, tm[112]?.getD undef = u112x, tm[113]?.getD undef = u113x, tm[114]?.getD undef = u114x, tm[115]?.getD undef = u115x, tm[116]?.getD undef = u116x
          obtain ⟨w8, l2, hw, hws, hok2, hv2, hK2, -⟩ := hw
          subst hws
          obtain ⟨A6, n6, c6, C6, rfl, hCo, hCdo, hCm⟩ := h12
          have hq2 : Hid (LkQ (fun b => b ≠ g7 ∧ b ≠ g9) l2) := hK2 _ hqa.out (fun b hb8 => ⟨by have := hA.out.lt; omega, by have := hB.out.lt; omega⟩)
          have hA1 := Lib.hid (hA.out.below hw hA.out.lt)
          have hB1 := Lib.hid (hB.out.below hw hB.out.lt)
          have hokb1 := Lib.hid (hokb.out.more hw)
          have hb1 := Lib.hid (hb.out.trans (hw.mono hb.out.size))
          replace hv2 := Lib.hid hv2
          replace hCm := Lib.hid hCm
          replace hok2 := Lib.hid hok2
          replace hCo := Lib.hid hCo
          replace hCdo := Lib.hid hCdo
          clear hw hK2 hcell7 hcell7z hltB hcello hplay hA hB hokb hb hoka
          have hg1 := Lib.hid (grown_set6 w8 g7 (Value.int .i64 l2.now) (Value.int .i64 l2.delay) (Value.bool l2.cut) (Value.int .i64 l2.count) (Value.slice l2.lA l2.ln l2.lc) (Value.slice l2.bA l2.bn l2.bc))
          have hA := Lib.hid (lk_set6 hA1.out (Value.int .i64 l2.now) (Value.int .i64 l2.delay) (Value.bool l2.cut) (Value.int .i64 l2.count) (Value.slice l2.lA l2.ln l2.lc) (Value.slice l2.bA l2.bn l2.bc))
          have hB := Lib.hid (hB1.out.grown hg1.out (by intro e; injection e with e; exact hne.out e.symm))
          have hok2 := Lib.hid (LkOk_q hok2.out hq2.out.left hg1.out)
          have hokb := Lib.hid (LkOk_q hokb1.out hqb.out.left hg1.out)
          have hb := Lib.hid (hb1.out.grown hg1.out hb1.out.size (fun g8 e8 => by injection e8 with e8; rw [← e8]; exact hg7w.out))
          obtain ⟨o0, o1⟩ := (show ((((((w8.setCell ⟨g7, 0, none⟩ (Value.int .i64 l2.now)).setCell ⟨g7, 1, none⟩ (Value.int .i64 l2.delay)).setCell ⟨g7, 2, none⟩ (Value.bool l2.cut)).setCell ⟨g7, 3, none⟩ (Value.int .i64 l2.count)).setCell ⟨g7, 4, none⟩ (Value.slice l2.lA l2.ln l2.lc)).setCell ⟨g7, 5, none⟩ (Value.slice l2.bA l2.bn l2.bc)).cell? (ad.add (k * 2)) = some (Value.int .i64 kd) ∧ ((((((w8.setCell ⟨g7, 0, none⟩ (Value.int .i64 l2.now)).setCell ⟨g7, 1, none⟩ (Value.int .i64 l2.delay)).setCell ⟨g7, 2, none⟩ (Value.bool l2.cut)).setCell ⟨g7, 3, none⟩ (Value.int .i64 l2.count)).setCell ⟨g7, 4, none⟩ (Value.slice l2.lA l2.ln l2.lc)).setCell ⟨g7, 5, none⟩ (Value.slice l2.bA l2.bn l2.bc)).cell? ⟨(ad.add (k * 2)).block, (ad.add (k * 2)).off + 1, none⟩ = some (Value.slice oA od.length oc) from hop.out _ hb.out)
          clear hA1 hB1 hokb1 hb1 hg1
          by_cases q1 : kd = 1
          · have q1d : (kd == 1) = true := by simpa using q1
            obtain ⟨r2, hr2⟩ : ∃ r2, r2 = sendL lb.val od := ⟨_, rfl⟩
            have hrX : r = (r2.1, [], r2.2) := by rw [hr.out, q1, hr2, ← hve.out]; rfl
            replace hr2 := Lib.hid hr2
            have hnb : Hid (0 ≤ lb.now ∧ lb.now ≤ 268435456 ∧ 1 ≤ lb.delay ∧ lb.delay ≤ 60 ∧ 0 ≤ lb.count) := by
              have := hgd.out.nd
              rw [hve.out] at this
              exact this
            have e8 : r.2.2 = r2.2 := by rw [hrX]
            have hrV : Hid (r.1 = r2.1) := by show _ = _; rw [hrX]
            have hrC : Hid (r.2.1 = []) := by show _ = _; rw [hrX]
            clear hrX
            rw [e8]
            replace e8 := Lib.hid e8
            replace q1 := Lib.hid q1
            go_wp2_with fail
            clear o0 o1
            generalize ((((((w8.setCell ⟨g7, 0, none⟩ (Value.int .i64 l2.now)).setCell ⟨g7, 1, none⟩ (Value.int .i64 l2.delay)).setCell ⟨g7, 2, none⟩ (Value.bool l2.cut)).setCell ⟨g7, 3, none⟩ (Value.int .i64 l2.count)).setCell ⟨g7, 4, none⟩ (Value.slice l2.lA l2.ln l2.lc)).setCell ⟨g7, 5, none⟩ (Value.slice l2.bA l2.bn l2.bc)) = wc at *
            have hcell9 : Hid (∀ wz, Below wc.heap.size wc wz → wz.cell? ⟨g9, 0, none⟩ = some (Value.int .i64 lb.now) ∧ wz.cell? ⟨g9, 1, none⟩ = some (Value.int .i64 lb.delay) ∧ wz.cell? ⟨g9, 2, none⟩ = some (Value.bool lb.cut) ∧ wz.cell? ⟨g9, 3, none⟩ = some (Value.int .i64 lb.count) ∧ wz.cell? ⟨g9, 4, none⟩ = some (Value.slice lb.lA lb.ln lb.lc) ∧ wz.cell? ⟨g9, 5, none⟩ = some (Value.slice lb.bA lb.bn lb.bc)) := fun wz hz => by
              have q := hB.out.below hz hB.out.lt
              exact ⟨q.cell 0, q.cell 1, q.cell 2, q.cell 3, q.cell 4, q.cell 5⟩
            have hcell9z : Hid (∀ wz, Below wc.heap.size wc wz → wz.cell? ⟨g9, 0, none⟩ = some (Value.int .i64 lb.now) ∧ wz.cell? ⟨g9, 1, none⟩ = some (Value.int .i64 lb.delay) ∧ wz.cell? ⟨g9, 2, none⟩ = some (Value.bool lb.cut) ∧ wz.cell? ⟨g9, 3, none⟩ = some (Value.int .i64 lb.count) ∧ wz.cell? ⟨g9, 4, none⟩ = some (Value.slice lb.lA lb.ln lb.lc) ∧ wz.cell? ⟨g9, 5, none⟩ = some (Value.slice lb.bA lb.bn lb.bc) ∧ wz.frozen? ⟨g9, 0, none⟩ = false ∧ wz.frozen? ⟨g9, 1, none⟩ = false ∧ wz.frozen? ⟨g9, 2, none⟩ = false ∧ wz.frozen? ⟨g9, 3, none⟩ = false ∧ wz.frozen? ⟨g9, 4, none⟩ = false ∧ wz.frozen? ⟨g9, 5, none⟩ = false) := fun wz hz => by
              have q := hB.out.below hz hB.out.lt
              exact ⟨q.cell 0, q.cell 1, q.cell 2, q.cell 3, q.cell 4, q.cell 5, q.frozen 0, q.frozen 1, q.frozen 2, q.frozen 3, q.frozen 4, q.frozen 5⟩
            have hltB : Hid (g9 < wc.heap.size) := hB.out.lt
            have hcello : Hid (∀ wz, Below wc.heap.size wc wz → wz.cell? (ad.add (k * 2)) = some (Value.int .i64 kd) ∧ wz.cell? ⟨(ad.add (k * 2)).block, (ad.add (k * 2)).off + 1, none⟩ = some (Value.slice oA od.length oc)) := fun wz hz => hop.out wz (hb.out.trans (hz.mono hb.out.size))
            have hsend : Hid (∀ wz, Below wc.heap.size wc wz → Calls Try.prog 20 #[lkV lb, .slice oA od.length oc] wz fun e w' => (∃ v9, e = .returned v9 ∧ SeT wc.heap.size g9 lb r2 v9 w') ∧ Below wz.heap.size wz w') := fun wz hz => (rsend_any lb oA od.length oc od wz (hokb.out.more hz) (sm_of (l := lb) (by rw [← hve.out]; exact hgd.out.sm)) (hox.out.more (hb.out.trans (hz.mono hb.out.size))).1.1 (hox.out.more (hb.out.trans (hz.mono hb.out.size))).1.2 hnb.out).mono (by
              rintro e w' ⟨⟨l', he, h1, h2, h3⟩, h4⟩
              rw [hr2.out]
              exact ⟨⟨_, he, l', rfl, h1, h2, h3.base hz.size, h3 _ hqb.out.right (fun b hb8 => by have := hB.out.lt; have := hz.size; omega)⟩, h4⟩)
            refine RW.region [] [] 11 10 (F := fun _ => F5b g9 n2 c2 k wc.heap.size oc ad lb oA od.length r2) (W := fun ph wz => if ph = true then ∃ (w8 : World) (l3 : Lk), Below wc.heap.size wc w8 ∧ wz = ((((((w8.setCell ⟨g9, 0, none⟩ (Value.int .i64 l3.now)).setCell ⟨g9, 1, none⟩ (Value.int .i64 l3.delay)).setCell ⟨g9, 2, none⟩ (Value.bool l3.cut)).setCell ⟨g9, 3, none⟩ (Value.int .i64 l3.count)).setCell ⟨g9, 4, none⟩ (Value.slice l3.lA l3.ln l3.lc)).setCell ⟨g9, 5, none⟩ (Value.slice l3.bA l3.bn l3.bc)) ∧ LkOk w8 l3 ∧ l3.val = r2.1 ∧ LkK wc.heap.size lb l3 ∧ LkQ (fun b => b ≠ g9) l3 else Below wc.heap.size wc wz) (R := fun _ => Rb) rfl (fun _ => F5b_more) (by kernel_rfl) (by kernel_rfl) (by kernel_rfl) (by kernel_rfl) (by kernel_rfl) (by kernel_rfl) (by decide) rfl rfl ?_ ?_ ?_ ?_ ?_
            · show if false = true then _ else _
              rw [if_neg (by decide)]
              exact (Below.refl _ _).drew
            · intro t ht
              unfold F5b
              split <;> first | trivial | exact rfl | (exact absurd ht (by decide))
            · intro ph i o hi his hpa ho
              have hcs : i = 0 ∨ i = 1 ∨ i = 2 ∨ i = 3 ∨ i = 4 ∨ i = 5 ∨ i = 6 ∨ i = 7 ∨ i = 8 ∨ i = 9 := by omega
              rcases hcs with rfl | rfl | rfl | rfl | rfl | rfl | rfl | rfl | rfl | rfl <;> (injection ho with ho; subst ho)
              · have hph : ph = false := by
                  cases ph with
                  | false => rfl
                  | true => exact absurd ((show RW.ahead _ 10 0 = true by kernel_rfl).symm.trans (hpa rfl)) (by decide)
                subst hph
                intro a w2 hw0 _ hf K hK
                have hK' : ∀ d v w', _ = some d → F5b g9 n2 c2 k wc.heap.size oc ad lb oA od.length r2 d v w' → (Below wc.heap.size wc w') → Rb w2 w' → _ → K (a.put (some d) v) w' := fun d v w' h1 h2 h3 h4 h5 => hK d v w' h1 h2 (by simpa using h3) h4 h5
                have hw : Below wc.heap.size wc w2 := by simpa using hw0
                have f0 := hf 9 rfl
                simp only [F5b] at f0
                clear hf
                obtain ⟨b0, b1, b2, b3, b4, b5⟩ := hcell9.out w2 hw
                go_simp
                exact hK' _ _ _ rfl rfl hw (Below.refl _ _) (fun h => absurd h (by decide))
              · have hph : ph = false := by
                  cases ph with
                  | false => rfl
                  | true => exact absurd ((show RW.ahead _ 10 1 = true by kernel_rfl).symm.trans (hpa rfl)) (by decide)
                subst hph
                intro a w2 hw0 _ hf K hK
                have hK' : ∀ d v w', _ = some d → F5b g9 n2 c2 k wc.heap.size oc ad lb oA od.length r2 d v w' → (Below wc.heap.size wc w') → Rb w2 w' → _ → K (a.put (some d) v) w' := fun d v w' h1 h2 h3 h4 h5 => hK d v w' h1 h2 (by simpa using h3) h4 h5
                have hw : Below wc.heap.size wc w2 := by simpa using hw0
                have f0 := hf 2 rfl
                simp only [F5b] at f0
                clear hf
                go_simp
                exact hK' _ _ _ rfl rfl hw (Below.refl _ _) (fun h => absurd h (by decide))
              · have hph : ph = false := by
                  cases ph with
                  | false => rfl
                  | true => exact absurd ((show RW.ahead _ 10 2 = true by kernel_rfl).symm.trans (hpa rfl)) (by decide)
                subst hph
                intro a w2 hw0 _ hf K hK
                have hK' : ∀ d v w', _ = some d → F5b g9 n2 c2 k wc.heap.size oc ad lb oA od.length r2 d v w' → (Below wc.heap.size wc w') → Rb w2 w' → _ → K (a.put (some d) v) w' := fun d v w' h1 h2 h3 h4 h5 => hK d v w' h1 h2 (by simpa using h3) h4 h5
                have hw : Below wc.heap.size wc w2 := by simpa using hw0
                have f0 := hf 11 rfl
                simp only [F5b] at f0
                clear hf
                go_simp
                exact hK' _ _ _ rfl rfl hw (Below.refl _ _) (fun h => absurd h (by decide))
              · have hph : ph = false := by
                  cases ph with
                  | false => rfl
                  | true => exact absurd ((show RW.ahead _ 10 3 = true by kernel_rfl).symm.trans (hpa rfl)) (by decide)
                subst hph
                intro a w2 hw0 _ hf K hK
                have hK' : ∀ d v w', _ = some d → F5b g9 n2 c2 k wc.heap.size oc ad lb oA od.length r2 d v w' → (Below wc.heap.size wc w') → Rb w2 w' → _ → K (a.put (some d) v) w' := fun d v w' h1 h2 h3 h4 h5 => hK d v w' h1 h2 (by simpa using h3) h4 h5
                have hw : Below wc.heap.size wc w2 := by simpa using hw0
                have f0 := hf 70 rfl
                have f1 := hf 71 rfl
                simp only [F5b] at f0 f1
                clear hf
                go_simp
                exact hK' _ _ _ rfl rfl hw (Below.refl _ _) (fun h => absurd h (by decide))
              · have hph : ph = false := by
                  cases ph with
                  | false => rfl
                  | true => exact absurd ((show RW.ahead _ 10 4 = true by kernel_rfl).symm.trans (hpa rfl)) (by decide)
                subst hph
                intro a w2 hw0 _ hf K hK
                have hK' : ∀ d v w', _ = some d → F5b g9 n2 c2 k wc.heap.size oc ad lb oA od.length r2 d v w' → (Below wc.heap.size wc w') → Rb w2 w' → _ → K (a.put (some d) v) w' := fun d v w' h1 h2 h3 h4 h5 => hK d v w' h1 h2 (by simpa using h3) h4 h5
                have hw : Below wc.heap.size wc w2 := by simpa using hw0
                have f0 := hf 72 rfl
                simp only [F5b] at f0
                clear hf
                go_simp
                exact hK' _ _ _ rfl rfl hw (Below.refl _ _) (fun h => absurd h (by decide))
              · have hph : ph = false := by
                  cases ph with
                  | false => rfl
                  | true => exact absurd ((show RW.ahead _ 10 5 = true by kernel_rfl).symm.trans (hpa rfl)) (by decide)
                subst hph
                intro a w2 hw0 _ hf K hK
                have hK' : ∀ d v w', _ = some d → F5b g9 n2 c2 k wc.heap.size oc ad lb oA od.length r2 d v w' → (Below wc.heap.size wc w') → Rb w2 w' → _ → K (a.put (some d) v) w' := fun d v w' h1 h2 h3 h4 h5 => hK d v w' h1 h2 (by simpa using h3) h4 h5
                have hw : Below wc.heap.size wc w2 := by simpa using hw0
                have f0 := hf 73 rfl
                simp only [F5b] at f0
                clear hf
                obtain ⟨o0, o1⟩ := hcello.out w2 hw
                go_simp
                exact hK' _ _ _ rfl rfl hw (Below.refl _ _) (fun h => absurd h (by decide))
              · have hph : ph = false := by
                  cases ph with
                  | false => rfl
                  | true => exact absurd ((show RW.ahead _ 10 6 = true by kernel_rfl).symm.trans (hpa rfl)) (by decide)
                subst hph
                intro a w2 hw0 _ hf K hK
                have hK' : ∀ d v w', _ = some d → F5b g9 n2 c2 k wc.heap.size oc ad lb oA od.length r2 d v w' → (Below wc.heap.size wc w') → Rb w2 w' → _ → K (a.put (some d) v) w' := fun d v w' h1 h2 h3 h4 h5 => hK d v w' h1 h2 (by simpa using h3) h4 h5
                have hw : Below wc.heap.size wc w2 := by simpa using hw0
                have f0 := hf 69 rfl
                have f1 := hf 74 rfl
                simp only [F5b] at f0 f1
                clear hf
                go_simp
                refine (hsend.out w2 hw).mono ?_; rintro e w5 ⟨hP, hbq⟩
                obtain ⟨v9, rfl, hT⟩ := hP
                exact hK' _ _ _ rfl hT (hw.trans (hbq.mono hw.size)) hbq (fun h => absurd h (by decide))
              · have hph : ph = false := by
                  cases ph with
                  | false => rfl
                  | true => exact absurd ((show RW.ahead _ 10 7 = true by kernel_rfl).symm.trans (hpa rfl)) (by decide)
                subst hph
                intro a w2 hw0 _ hf K hK
                have hK' : ∀ d v w', _ = some d → F5b g9 n2 c2 k wc.heap.size oc ad lb oA od.length r2 d v w' → (Below wc.heap.size wc w') → Rb w2 w' → _ → K (a.put (some d) v) w' := fun d v w' h1 h2 h3 h4 h5 => hK d v w' h1 h2 (by simpa using h3) h4 h5
                have hw : Below wc.heap.size wc w2 := by simpa using hw0
                have f0 := hf 75 rfl
                simp only [F5b] at f0
                clear hf
                have hT := Lib.hid f0
                clear f0
                go_simp
                exact hK' _ _ _ rfl hT.out hw (Below.refl _ _) (fun h => absurd h (by decide))
              · have hph : ph = false := by
                  cases ph with
                  | false => rfl
                  | true => exact absurd ((show RW.ahead _ 10 8 = true by kernel_rfl).symm.trans (hpa rfl)) (by decide)
                subst hph
                intro a w2 hw0 _ hf K hK
                have hK' : ∀ d v w', _ = some d → F5b g9 n2 c2 k wc.heap.size oc ad lb oA od.length r2 d v w' → (Below wc.heap.size wc w') → Rb w2 w' → _ → K (a.put (some d) v) w' := fun d v w' h1 h2 h3 h4 h5 => hK d v w' h1 h2 (by simpa using h3) h4 h5
                have hw : Below wc.heap.size wc w2 := by simpa using hw0
                have f0 := hf 68 rfl
                simp only [F5b] at f0
                clear hf
                obtain ⟨l', hv, h1, h2, h3⟩ := f0
                replace h1 := Lib.hid h1
                replace h2 := Lib.hid h2
                replace h3 := Lib.hid h3
                simp only [lkV] at hv
                go_simp
                exact hK' _ _ _ rfl ⟨l', rfl, h1.out, h2.out, h3.out.1, h3.out.2⟩ hw (Below.refl _ _) (fun h => absurd h (by decide))
              · intro a w2 hw _ hf K hK
                have f0 := hf 68 rfl
                simp only [F5b] at f0
                clear hf
                obtain ⟨l', hv, h1, h2, h3⟩ := f0
                replace h1 := Lib.hid h1
                replace h2 := Lib.hid h2
                replace h3 := Lib.hid h3
                simp only [lkV] at hv
                go_simp
                exact hK _ _ _ rfl rfl hw (Below.refl _ _) (fun h => absurd h (by decide))
            · intro o ho a w2 hw0 hf K hK
              injection ho with ho
              subst ho
              have hw : Below wc.heap.size wc w2 := by simpa using hw0
              have f0 := hf 9 rfl
              have f1 := hf 76 rfl
              simp only [F5b] at f0 f1
              clear hf
              obtain ⟨l9, hl9, q1, q2, q3, q4⟩ := f1
              have q1 := Lib.hid q1
              have q2 := Lib.hid q2
              have q3 := Lib.hid q3
              have q4 := Lib.hid q4
              simp only [lkV] at hl9
              obtain ⟨a0, a1, a2, a3, a4, a5, z0, z1, z2, z3, z4, z5⟩ := hcell9z.out w2 hw
              have hg1 := Lib.hid (grown_set6 w2 g9 (Value.int .i64 l9.now) (Value.int .i64 l9.delay) (Value.bool l9.cut) (Value.int .i64 l9.count) (Value.slice l9.lA l9.ln l9.lc) (Value.slice l9.bA l9.bn l9.bc))
              go_simp
              exact hK undef _ (by show if true = true then _ else _; rw [if_pos rfl]; exact ⟨w2, l9, hw, rfl, q1.out, q2.out, q3.out, q4.out⟩) (fun t u hF => F5b_st hltB.out t u w2 _ hg1.out hF)
            · intro a' w9 hd hs hw hout hf
              replace hw : ∃ (w8 : World) (l3 : Lk), Below wc.heap.size wc w8 ∧ w9 = ((((((w8.setCell ⟨g9, 0, none⟩ (Value.int .i64 l3.now)).setCell ⟨g9, 1, none⟩ (Value.int .i64 l3.delay)).setCell ⟨g9, 2, none⟩ (Value.bool l3.cut)).setCell ⟨g9, 3, none⟩ (Value.int .i64 l3.count)).setCell ⟨g9, 4, none⟩ (Value.slice l3.lA l3.ln l3.lc)).setCell ⟨g9, 5, none⟩ (Value.slice l3.bA l3.bn l3.bc)) ∧ LkOk w8 l3 ∧ l3.val = r2.1 ∧ LkK wc.heap.size lb l3 ∧ LkQ (fun b => b ≠ g9) l3 := by simpa using hw
              have h77 := hf 9 77 (by decide) rfl rfl
              simp only [F5b] at h77
              have e0 : _ = some (Value.int .i64 delay) := hout 0 rfl
              have e1 : _ = some (Value.slice A1 n1 c1) := hout 1 rfl
              have e2 : _ = some (Value.slice (some ad) n2 c2) := hout 2 rfl
              have e7 : _ = some (Value.pointer (some ⟨g7, 0, none⟩)) := hout 7 rfl
              have e9 : _ = some (Value.pointer (some ⟨g9, 0, none⟩)) := hout 9 rfl
              have e11 : _ = some (Value.int .i64 (k : Int)) := hout 11 rfl
              have e13 : _ = some (Value.slice none 0 0) := hout 13 rfl
              have e3 : _ = some (undef) := hout 3 rfl
              have e4 : _ = some (undef) := hout 4 rfl
              have e5 : _ = some (undef) := hout 5 rfl
              have e14 : _ = some (Value.slice A1 n1 c1) := hout 14 rfl
              have e15 : _ = some (Value.int .i64 n1) := hout 15 rfl
              have e16 : _ = some (Value.bool false) := hout 16 rfl
              have e17 : _ = some (Value.bool false) := hout 17 rfl
              have e18 : _ = some (Value.slice (some ad) n2 c2) := hout 18 rfl
              have e19 : _ = some (Value.bool false) := hout 19 rfl
              have e20 : _ = some (Value.bool false) := hout 20 rfl
              have e21 : _ = some (undef) := hout 21 rfl
              have e22 : _ = some (Value.tuple #[.agg #[Value.int .i64 la0.now, Value.int .i64 la0.delay, Value.bool la0.cut, Value.int .i64 la0.count, Value.slice la0.lA la0.ln la0.lc, Value.slice la0.bA la0.bn la0.bc], .int .i64 0]) := hout 22 rfl
              have e23 : _ = some (Value.int .i64 delay) := hout 23 rfl
              have e24 : _ = some (Value.slice A1 n1 c1) := hout 24 rfl
              have e25 : _ = some (Value.tuple #[.agg #[Value.int .i64 la0.now, Value.int .i64 la0.delay, Value.bool la0.cut, Value.int .i64 la0.count, Value.slice la0.lA la0.ln la0.lc, Value.slice la0.bA la0.bn la0.bc], .int .i64 0]) := hout 25 rfl
              have e26 : _ = some (Value.agg #[Value.int .i64 la0.now, Value.int .i64 la0.delay, Value.bool la0.cut, Value.int .i64 la0.count, Value.slice la0.lA la0.ln la0.lc, Value.slice la0.bA la0.bn la0.bc]) := hout 26 rfl
              have e27 : _ = some (Value.int .i64 0) := hout 27 rfl
              have e28 : _ = some (Value.tuple #[.agg #[Value.int .i64 lb0.now, Value.int .i64 lb0.delay, Value.bool lb0.cut, Value.int .i64 lb0.count, Value.slice lb0.lA lb0.ln lb0.lc, Value.slice lb0.bA lb0.bn lb0.bc], .int .i64 0]) := hout 28 rfl
              have e29 : _ = some (Value.int .i64 delay) := hout 29 rfl
              have e30 : _ = some (Value.slice A1 n1 c1) := hout 30 rfl
              have e31 : _ = some (Value.tuple #[.agg #[Value.int .i64 lb0.now, Value.int .i64 lb0.delay, Value.bool lb0.cut, Value.int .i64 lb0.count, Value.slice lb0.lA lb0.ln lb0.lc, Value.slice lb0.bA lb0.bn lb0.bc], .int .i64 0]) := hout 31 rfl
              have e32 : _ = some (Value.agg #[Value.int .i64 lb0.now, Value.int .i64 lb0.delay, Value.bool lb0.cut, Value.int .i64 lb0.count, Value.slice lb0.lA lb0.ln lb0.lc, Value.slice lb0.bA lb0.bn lb0.bc]) := hout 32 rfl
              have e33 : _ = some (Value.int .i64 0) := hout 33 rfl
              have e34 : _ = some (Value.int .i64 0) := hout 34 rfl
              have e35 : _ = some (Value.int .i64 0) := hout 35 rfl
              have e36 : _ = some (Value.bool false) := hout 36 rfl
              have e37 : _ = some (Value.bool false) := hout 37 rfl
              have e38 : _ = some (Value.agg #[Value.int .i64 la0.now, Value.int .i64 la0.delay, Value.bool la0.cut, Value.int .i64 la0.count, Value.slice la0.lA la0.ln la0.lc, Value.slice la0.bA la0.bn la0.bc]) := hout 38 rfl
              have e39 : _ = some (Value.agg #[Value.int .i64 lb0.now, Value.int .i64 lb0.delay, Value.bool lb0.cut, Value.int .i64 lb0.count, Value.slice lb0.lA lb0.ln lb0.lc, Value.slice lb0.bA lb0.bn lb0.bc]) := hout 39 rfl
              have e40 : _ = some (Value.bool true) := hout 40 rfl
              have e41 : _ = some (Value.bool false) := hout 41 rfl
              have e42 : _ = some (Value.bool false) := hout 42 rfl
              have e43 : _ = some (Value.int .i64 0) := hout 43 rfl
              have e44 : _ = some (Value.bool false) := hout 44 rfl
              have e45 : _ = some (undef) := hout 45 rfl
              have e46 : _ = some (Value.slice (some ad) n2 c2) := hout 46 rfl
              have e47 : _ = some (Value.int .i64 n2) := hout 47 rfl
              have e48 : _ = some (Value.int .i64 (k : Int)) := hout 48 rfl
              have e117 : _ = some (undef) := hout 117 rfl
              have e8 : _ = some (Value.int .i64 r2.2) := hout 8 rfl
              have e12 : _ = some (Value.slice A6 n6 c6) := hout 12 rfl
              obtain ⟨tm, df⟩ := a'
              simp only at hd hs h77 e0 e1 e2 e7 e9 e11 e13 e3 e4 e5 e14 e15 e16 e17 e18 e19 e20 e21 e22 e23 e24 e25 e26 e27 e28 e29 e30 e31 e32 e33 e34 e35 e36 e37 e38 e39 e40 e41 e42 e43 e44 e45 e46 e47 e48 e117 e8 e12
              have e := lit_arr tm 118 hs
              rw [show (List.range 118).map (fun i => tm[i]?.getD undef) = [tm[0]?.getD undef, tm[1]?.getD undef, tm[2]?.getD undef, tm[3]?.getD undef, tm[4]?.getD undef, tm[5]?.getD undef, tm[6]?.getD undef, tm[7]?.getD undef, tm[8]?.getD undef, tm[9]?.getD undef, tm[10]?.getD undef, tm[11]?.getD undef, tm[12]?.getD undef, tm[13]?.getD undef, tm[14]?.getD undef, tm[15]?.getD undef, tm[16]?.getD undef, tm[17]?.getD undef, tm[18]?.getD undef, tm[19]?.getD undef, tm[20]?.getD undef, tm[21]?.getD undef, tm[22]?.getD undef, tm[23]?.getD undef, tm[24]?.getD undef, tm[25]?.getD undef, tm[26]?.getD undef, tm[27]?.getD undef, tm[28]?.getD undef, tm[29]?.getD undef, tm[30]?.getD undef, tm[31]?.getD undef, tm[32]?.getD undef, tm[33]?.getD undef, tm[34]?.getD undef, tm[35]?.getD undef, tm[36]?.getD undef, tm[37]?.getD undef, tm[38]?.getD undef, tm[39]?.getD undef, tm[40]?.getD undef, tm[41]?.getD undef, tm[42]?.getD undef, tm[43]?.getD undef, tm[44]?.getD undef, tm[45]?.getD undef, tm[46]?.getD undef, tm[47]?.getD undef, tm[48]?.getD undef, tm[49]?.getD undef, tm[50]?.getD undef, tm[51]?.getD undef, tm[52]?.getD undef, tm[53]?.getD undef, tm[54]?.getD undef, tm[55]?.getD undef, tm[56]?.getD undef, tm[57]?.getD undef, tm[58]?.getD undef, tm[59]?.getD undef, tm[60]?.getD undef, tm[61]?.getD undef, tm[62]?.getD undef, tm[63]?.getD undef, tm[64]?.getD undef, tm[65]?.getD undef, tm[66]?.getD undef, tm[67]?.getD undef, tm[68]?.getD undef, tm[69]?.getD undef, tm[70]?.getD undef, tm[71]?.getD undef, tm[72]?.getD undef, tm[73]?.getD undef, tm[74]?.getD undef, tm[75]?.getD undef, tm[76]?.getD undef, tm[77]?.getD undef, tm[78]?.getD undef, tm[79]?.getD undef, tm[80]?.getD undef, tm[81]?.getD undef, tm[82]?.getD undef, tm[83]?.getD undef, tm[84]?.getD undef, tm[85]?.getD undef, tm[86]?.getD undef, tm[87]?.getD undef, tm[88]?.getD undef, tm[89]?.getD undef, tm[90]?.getD undef, tm[91]?.getD undef, tm[92]?.getD undef, tm[93]?.getD undef, tm[94]?.getD undef, tm[95]?.getD undef, tm[96]?.getD undef, tm[97]?.getD undef, tm[98]?.getD undef, tm[99]?.getD undef, tm[100]?.getD undef, tm[101]?.getD undef, tm[102]?.getD undef, tm[103]?.getD undef, tm[104]?.getD undef, tm[105]?.getD undef, tm[106]?.getD undef, tm[107]?.getD undef, tm[108]?.getD undef, tm[109]?.getD undef, tm[110]?.getD undef, tm[111]?.getD undef, tm[112]?.getD undef, tm[113]?.getD undef, tm[114]?.getD undef, tm[115]?.getD undef, tm[116]?.getD undef, tm[117]?.getD undef] from rfl] at e
              simp only [h77, e0, e1, e2, e7, e9, e11, e13, e3, e4, e5, e14, e15, e16, e17, e18, e19, e20, e21, e22, e23, e24, e25, e26, e27, e28, e29, e30, e31, e32, e33, e34, e35, e36, e37, e38, e39, e40, e41, e42, e43, e44, e45, e46, e47, e48, e117, e8, e12, Option.getD_some] at e
              clear hf hout hs
              rw [e, hd]
              clear e hd h77 e0 e1 e2 e7 e9 e11 e13 e3 e4 e5 e14 e15 e16 e17 e18 e19 e20 e21 e22 e23 e24 e25 e26 e27 e28 e29 e30 e31 e32 e33 e34 e35 e36 e37 e38 e39 e40 e41 e42 e43 e44 e45 e46 e47 e48 e117 e8 e12
              generalize tm[6]?.getD undef = u6x, tm[10]?.getD undef = u10x, tm[49]?.getD undef = u49x, tm[50]?.getD undef = u50x, tm[51]?.getD undef = u51x, tm[52]?.getD undef = u52x, tm[53]?.getD undef = u53x, tm[54]?.getD undef = u54x, tm[55]?.getD undef = u55x, tm[56]?.getD undef = u56x, tm[57]?.getD undef = u57x, tm[58]?.getD undef = u58x, tm[59]?.getD undef = u59x, tm[60]?.getD undef = u60x, tm[61]?.getD undef = u61x, tm[62]?.getD undef = u62x, tm[63]?.getD undef = u63x, tm[64]?.getD undef = u64x, tm[65]?.getD undef = u65x, tm[66]?.getD undef = u66x, tm[67]?.getD undef = u67x, tm[68]?.getD undef = u68x, tm[69]?.getD undef = u69x, tm[70]?.getD undef = u70x, tm[71]?.getD undef = u71x, tm[72]?.getD undef = u72x, tm[73]?.getD undef = u73x, tm[74]?.getD undef = u74x, tm[75]?.getD undef = u75x, tm[76]?.getD undef = u76x, tm[78]?.getD undef = u78x, tm[79]?.getD undef = u79x, tm[80]?.getD undef = u80x, tm[81]?.getD undef = u81x, tm[82]?.getD undef = u82x, tm[83]?.getD undef = u83x, tm[84]?.getD undef = u84x, tm[85]?.getD undef = u85x, tm[86]?.getD undef = u86x, tm[87]?.getD undef = u87x, tm[88]?.getD undef = u88x, tm[89]?.getD undef = u89x, tm[90]?.getD undef = u90x, tm[91]?.getD undef = u91x, tm[92]?.getD undef = u92x, tm[93]?.getD undef = u93x, tm[94]?.getD undef = u94x, tm[95]?.getD undef = u95x, tm[96]?.getD undef = u96x, tm[97]?.getD undef = u97x, tm[98]?.getD undef = u98x, tm[99]?.getD undef = u99x, tm[100]?.getD undef = u100x, tm[101]?.getD undef = u101x, tm[102]?.getD undef = u102x, tm[103]?.getD undef = u103x, tm[104]?.getD undef = u104x, tm[105]?.getD undef = u105x, tm[106]?.getD undef = u106x, tm[107]?.getD undef = u107x, tm[108]?.getD undef = u108x, tm[109]?.getD undef = u109x, tm[110]?.getD undef = u110x, tm[111]?.getD undef = u111x, tm[112]?.getD undef = u112x, tm[113]?.getD undef = u113x, tm[114]?.getD undef = u114x, tm[115]?.getD undef = u115x, tm[116]?.getD undef = u116x
              obtain ⟨wd, l3, hw, hws, hok3, hv3, hK3, -⟩ := hw
              subst hws
              have hq3 : Hid (LkQ (fun b => b ≠ g7 ∧ b ≠ g9) l3) := hK3 _ hqb.out (fun b hb8 => ⟨by have := hA.out.lt; omega, by have := hB.out.lt; omega⟩)
              have hA2 := Lib.hid (hA.out.below hw hA.out.lt)
              have hB2 := Lib.hid (hB.out.below hw hB.out.lt)
              have hok2 := Lib.hid (hok2.out.more hw)
              have hb2 := Lib.hid (hb.out.trans (hw.mono hb.out.size))
              have hCo := Lib.hid (hCo.out.kept hw)
              have hCdo : Hid (∀ b ∈ C6, BOwn wd wr.heap.size (.slice b.A b.n b.c) b.d) := fun b hx => (hCdo.out b hx).kept hw
              replace hv3 : Hid (l3.val = r.1) := hv3.trans hrV.out.symm
              replace hok3 := Lib.hid hok3
              clear hw hK3 hcell9 hcell9z hltB hcello hsend hA hB hb hokb
              (try simp only [lkV])
              obtain ⟨b0, b1, b2, b3, b4, b5, z0, z1, z2, z3, z4, z5⟩ := (show wd.cell? ⟨g9, 0, none⟩ = some (Value.int .i64 lb.now) ∧ wd.cell? ⟨g9, 1, none⟩ = some (Value.int .i64 lb.delay) ∧ wd.cell? ⟨g9, 2, none⟩ = some (Value.bool lb.cut) ∧ wd.cell? ⟨g9, 3, none⟩ = some (Value.int .i64 lb.count) ∧ wd.cell? ⟨g9, 4, none⟩ = some (Value.slice lb.lA lb.ln lb.lc) ∧ wd.cell? ⟨g9, 5, none⟩ = some (Value.slice lb.bA lb.bn lb.bc) ∧ wd.frozen? ⟨g9, 0, none⟩ = false ∧ wd.frozen? ⟨g9, 1, none⟩ = false ∧ wd.frozen? ⟨g9, 2, none⟩ = false ∧ wd.frozen? ⟨g9, 3, none⟩ = false ∧ wd.frozen? ⟨g9, 4, none⟩ = false ∧ wd.frozen? ⟨g9, 5, none⟩ = false from ⟨hB2.out.cell 0, hB2.out.cell 1, hB2.out.cell 2, hB2.out.cell 3, hB2.out.cell 4, hB2.out.cell 5, hB2.out.frozen 0, hB2.out.frozen 1, hB2.out.frozen 2, hB2.out.frozen 3, hB2.out.frozen 4, hB2.out.frozen 5⟩)
              have hg2 := Lib.hid (grown_set6 wd g9 (Value.int .i64 l3.now) (Value.int .i64 l3.delay) (Value.bool l3.cut) (Value.int .i64 l3.count) (Value.slice l3.lA l3.ln l3.lc) (Value.slice l3.bA l3.bn l3.bc))
              have hB := Lib.hid (lk_set6 hB2.out (Value.int .i64 l3.now) (Value.int .i64 l3.delay) (Value.bool l3.cut) (Value.int .i64 l3.count) (Value.slice l3.lA l3.ln l3.lc) (Value.slice l3.bA l3.bn l3.bc))
              have hA := Lib.hid (hA2.out.grown hg2.out (by intro e; injection e with e; exact hne.out e))
              have hok2 := Lib.hid (LkOk_q hok2.out hq2.out.right hg2.out)
              have hok3 := Lib.hid (LkOk_q hok3.out hq3.out.right hg2.out)
              have hb := Lib.hid (hb2.out.grown hg2.out hb2.out.size (fun g8 e8 => by injection e8 with e8; rw [← e8]; exact hg9w.out))
              have hCa := Lib.hid (rows_at (hCo.out.grownB hB2.out (by decide) hg2.out))
              have hCd : Hid (∀ b ∈ C6, BsAt ((((((wd.setCell ⟨g9, 0, none⟩ (Value.int .i64 l3.now)).setCell ⟨g9, 1, none⟩ (Value.int .i64 l3.delay)).setCell ⟨g9, 2, none⟩ (Value.bool l3.cut)).setCell ⟨g9, 3, none⟩ (Value.int .i64 l3.count)).setCell ⟨g9, 4, none⟩ (Value.slice l3.lA l3.ln l3.lc)).setCell ⟨g9, 5, none⟩ (Value.slice l3.bA l3.bn l3.bc)) b) := fun b hx => bs_of_own ((hCdo.out b hx).grownB hB2.out (by decide) hg2.out)
              obtain ⟨m0, m1, m2, m3, m4, m5⟩ := (show ((((((wd.setCell ⟨g9, 0, none⟩ (Value.int .i64 l3.now)).setCell ⟨g9, 1, none⟩ (Value.int .i64 l3.delay)).setCell ⟨g9, 2, none⟩ (Value.bool l3.cut)).setCell ⟨g9, 3, none⟩ (Value.int .i64 l3.count)).setCell ⟨g9, 4, none⟩ (Value.slice l3.lA l3.ln l3.lc)).setCell ⟨g9, 5, none⟩ (Value.slice l3.bA l3.bn l3.bc)).cell? ⟨g7, 0, none⟩ = some (Value.int .i64 l2.now) ∧ ((((((wd.setCell ⟨g9, 0, none⟩ (Value.int .i64 l3.now)).setCell ⟨g9, 1, none⟩ (Value.int .i64 l3.delay)).setCell ⟨g9, 2, none⟩ (Value.bool l3.cut)).setCell ⟨g9, 3, none⟩ (Value.int .i64 l3.count)).setCell ⟨g9, 4, none⟩ (Value.slice l3.lA l3.ln l3.lc)).setCell ⟨g9, 5, none⟩ (Value.slice l3.bA l3.bn l3.bc)).cell? ⟨g7, 1, none⟩ = some (Value.int .i64 l2.delay) ∧ ((((((wd.setCell ⟨g9, 0, none⟩ (Value.int .i64 l3.now)).setCell ⟨g9, 1, none⟩ (Value.int .i64 l3.delay)).setCell ⟨g9, 2, none⟩ (Value.bool l3.cut)).setCell ⟨g9, 3, none⟩ (Value.int .i64 l3.count)).setCell ⟨g9, 4, none⟩ (Value.slice l3.lA l3.ln l3.lc)).setCell ⟨g9, 5, none⟩ (Value.slice l3.bA l3.bn l3.bc)).cell? ⟨g7, 2, none⟩ = some (Value.bool l2.cut) ∧ ((((((wd.setCell ⟨g9, 0, none⟩ (Value.int .i64 l3.now)).setCell ⟨g9, 1, none⟩ (Value.int .i64 l3.delay)).setCell ⟨g9, 2, none⟩ (Value.bool l3.cut)).setCell ⟨g9, 3, none⟩ (Value.int .i64 l3.count)).setCell ⟨g9, 4, none⟩ (Value.slice l3.lA l3.ln l3.lc)).setCell ⟨g9, 5, none⟩ (Value.slice l3.bA l3.bn l3.bc)).cell? ⟨g7, 3, none⟩ = some (Value.int .i64 l2.count) ∧ ((((((wd.setCell ⟨g9, 0, none⟩ (Value.int .i64 l3.now)).setCell ⟨g9, 1, none⟩ (Value.int .i64 l3.delay)).setCell ⟨g9, 2, none⟩ (Value.bool l3.cut)).setCell ⟨g9, 3, none⟩ (Value.int .i64 l3.count)).setCell ⟨g9, 4, none⟩ (Value.slice l3.lA l3.ln l3.lc)).setCell ⟨g9, 5, none⟩ (Value.slice l3.bA l3.bn l3.bc)).cell? ⟨g7, 4, none⟩ = some (Value.slice l2.lA l2.ln l2.lc) ∧ ((((((wd.setCell ⟨g9, 0, none⟩ (Value.int .i64 l3.now)).setCell ⟨g9, 1, none⟩ (Value.int .i64 l3.delay)).setCell ⟨g9, 2, none⟩ (Value.bool l3.cut)).setCell ⟨g9, 3, none⟩ (Value.int .i64 l3.count)).setCell ⟨g9, 4, none⟩ (Value.slice l3.lA l3.ln l3.lc)).setCell ⟨g9, 5, none⟩ (Value.slice l3.bA l3.bn l3.bc)).cell? ⟨g7, 5, none⟩ = some (Value.slice l2.bA l2.bn l2.bc) from ⟨hA.out.cell 0, hA.out.cell 1, hA.out.cell 2, hA.out.cell 3, hA.out.cell 4, hA.out.cell 5⟩)
              obtain ⟨n0, n1, n2, n3, n4, n5⟩ := (show ((((((wd.setCell ⟨g9, 0, none⟩ (Value.int .i64 l3.now)).setCell ⟨g9, 1, none⟩ (Value.int .i64 l3.delay)).setCell ⟨g9, 2, none⟩ (Value.bool l3.cut)).setCell ⟨g9, 3, none⟩ (Value.int .i64 l3.count)).setCell ⟨g9, 4, none⟩ (Value.slice l3.lA l3.ln l3.lc)).setCell ⟨g9, 5, none⟩ (Value.slice l3.bA l3.bn l3.bc)).cell? ⟨g9, 0, none⟩ = some (Value.int .i64 l3.now) ∧ ((((((wd.setCell ⟨g9, 0, none⟩ (Value.int .i64 l3.now)).setCell ⟨g9, 1, none⟩ (Value.int .i64 l3.delay)).setCell ⟨g9, 2, none⟩ (Value.bool l3.cut)).setCell ⟨g9, 3, none⟩ (Value.int .i64 l3.count)).setCell ⟨g9, 4, none⟩ (Value.slice l3.lA l3.ln l3.lc)).setCell ⟨g9, 5, none⟩ (Value.slice l3.bA l3.bn l3.bc)).cell? ⟨g9, 1, none⟩ = some (Value.int .i64 l3.delay) ∧ ((((((wd.setCell ⟨g9, 0, none⟩ (Value.int .i64 l3.now)).setCell ⟨g9, 1, none⟩ (Value.int .i64 l3.delay)).setCell ⟨g9, 2, none⟩ (Value.bool l3.cut)).setCell ⟨g9, 3, none⟩ (Value.int .i64 l3.count)).setCell ⟨g9, 4, none⟩ (Value.slice l3.lA l3.ln l3.lc)).setCell ⟨g9, 5, none⟩ (Value.slice l3.bA l3.bn l3.bc)).cell? ⟨g9, 2, none⟩ = some (Value.bool l3.cut) ∧ ((((((wd.setCell ⟨g9, 0, none⟩ (Value.int .i64 l3.now)).setCell ⟨g9, 1, none⟩ (Value.int .i64 l3.delay)).setCell ⟨g9, 2, none⟩ (Value.bool l3.cut)).setCell ⟨g9, 3, none⟩ (Value.int .i64 l3.count)).setCell ⟨g9, 4, none⟩ (Value.slice l3.lA l3.ln l3.lc)).setCell ⟨g9, 5, none⟩ (Value.slice l3.bA l3.bn l3.bc)).cell? ⟨g9, 3, none⟩ = some (Value.int .i64 l3.count) ∧ ((((((wd.setCell ⟨g9, 0, none⟩ (Value.int .i64 l3.now)).setCell ⟨g9, 1, none⟩ (Value.int .i64 l3.delay)).setCell ⟨g9, 2, none⟩ (Value.bool l3.cut)).setCell ⟨g9, 3, none⟩ (Value.int .i64 l3.count)).setCell ⟨g9, 4, none⟩ (Value.slice l3.lA l3.ln l3.lc)).setCell ⟨g9, 5, none⟩ (Value.slice l3.bA l3.bn l3.bc)).cell? ⟨g9, 4, none⟩ = some (Value.slice l3.lA l3.ln l3.lc) ∧ ((((((wd.setCell ⟨g9, 0, none⟩ (Value.int .i64 l3.now)).setCell ⟨g9, 1, none⟩ (Value.int .i64 l3.delay)).setCell ⟨g9, 2, none⟩ (Value.bool l3.cut)).setCell ⟨g9, 3, none⟩ (Value.int .i64 l3.count)).setCell ⟨g9, 4, none⟩ (Value.slice l3.lA l3.ln l3.lc)).setCell ⟨g9, 5, none⟩ (Value.slice l3.bA l3.bn l3.bc)).cell? ⟨g9, 5, none⟩ = some (Value.slice l3.bA l3.bn l3.bc) from ⟨hB.out.cell 0, hB.out.cell 1, hB.out.cell 2, hB.out.cell 3, hB.out.cell 4, hB.out.cell 5⟩)
              clear hA2 hB2 hb2 hCo hCdo hg2
              go_wp2_with fail
              clear b0 b1 b2 b3 b4 b5 z0 z1 z2 z3 z4 z5 m0 m1 m2 m3 m4 m5 n0 n1 n2 n3 n4 n5
              generalize ((((((wd.setCell ⟨g9, 0, none⟩ (Value.int .i64 l3.now)).setCell ⟨g9, 1, none⟩ (Value.int .i64 l3.delay)).setCell ⟨g9, 2, none⟩ (Value.bool l3.cut)).setCell ⟨g9, 3, none⟩ (Value.int .i64 l3.count)).setCell ⟨g9, 4, none⟩ (Value.slice l3.lA l3.ln l3.lc)).setCell ⟨g9, 5, none⟩ (Value.slice l3.bA l3.bn l3.bc)) = wf at *
              have hsm2 : Hid (l2.lose.length ≤ 1000 ∧ l2.box.length ≤ 1000) := by
                have := sm_of (l := l2) (by rw [hv2.out]; exact hgp.out.sm)
                exact ⟨this.1, this.2.1⟩
              refine (same_any l2 l3 wf hok2.out hok3.out (hv2.out.trans hv3.out.symm) hsm2.out.1 hsm2.out.2).mono ?_; rintro e wg ⟨rfl, hq⟩
              have hA := Lib.hid (hA.out.below hq hA.out.lt)
              have hB := Lib.hid (hB.out.below hq hB.out.lt)
              have hok2 := Lib.hid (hok2.out.more hq)
              have hok3 := Lib.hid (hok3.out.more hq)
              have hb := Lib.hid (hb.out.trans (hq.mono hb.out.size))
              have hCa := Lib.hid (hCa.out.more hq)
              have hCd : Hid (∀ b ∈ C6, BsAt wg b) := fun b hx => (hCd.out b hx).more hq
              skip
              clear hq
              have hsd := Lib.hid (sameData_any A6 none n6 c6 0 0 C6 [] wg hCa.out (LAt.nil sC_len _ _) hCd.out (fun b hx => by simp at hx) (hCm.out.trans (by rw [hrC.out]; rfl)) (by
                have e1 := hCa.out.len
                have e2 := congrArg List.length hCm.out
                have e3 := hfew.out
                rw [List.length_map] at e2
                omega))
              go_wp2_with fail
              refine hsd.out.mono ?_; rintro e wh ⟨rfl, rfl⟩
              clear hsd
              obtain ⟨a0, a1, a2, a3, a4, a5⟩ := (show wh.cell? ⟨g7, 0, none⟩ = some (Value.int .i64 l2.now) ∧ wh.cell? ⟨g7, 1, none⟩ = some (Value.int .i64 l2.delay) ∧ wh.cell? ⟨g7, 2, none⟩ = some (Value.bool l2.cut) ∧ wh.cell? ⟨g7, 3, none⟩ = some (Value.int .i64 l2.count) ∧ wh.cell? ⟨g7, 4, none⟩ = some (Value.slice l2.lA l2.ln l2.lc) ∧ wh.cell? ⟨g7, 5, none⟩ = some (Value.slice l2.bA l2.bn l2.bc) from ⟨hA.out.cell 0, hA.out.cell 1, hA.out.cell 2, hA.out.cell 3, hA.out.cell 4, hA.out.cell 5⟩)
              have hva := valid_any l2 wh hok2.out hsm2.out.1 hsm2.out.2
              rw [hv2.out, valid_of _ hgp.out] at hva
              simp only [lkV] at hva
              replace hva := Lib.hid hva
              go_wp2_with fail
              refine hva.out.mono ?_; rintro e wi ⟨rfl, hq⟩
              clear a0 a1 a2 a3 a4 a5 hva
              have hA := Lib.hid (hA.out.below hq hA.out.lt)
              have hB := Lib.hid (hB.out.below hq hB.out.lt)
              have hok2 := Lib.hid (hok2.out.more hq)
              have hok3 := Lib.hid (hok3.out.more hq)
              have hb := Lib.hid (hb.out.trans (hq.mono hb.out.size))
              go_wp2_with fail
              go_roundw
              case rel => exact ⟨k + 1, l2, l3, by omega, by go_num, hA.out, hB.out, hok2.out, hok3.out, hv2.out.trans hv3.out.symm, by show Good _; rw [hv2.out]; exact hgp.out, hq2.out, hq3.out, hb.out⟩
              case measure => simp [intOf]; omega
          · have q1d : (kd == 1) = false := by simpa using q1
            by_cases q2 : kd = 2
            · have q2d : (kd == 2) = true := by simpa using q2
              have hrX : r = ((tickL lb.val).1, (tickL lb.val).2, 0) := by rw [hr.out, q2, ← hve.out]; rfl
              have e8 : r.2.2 = 0 := by rw [hrX]
              have hrV : Hid (r.1 = (tickL lb.val).1) := by show _ = _; rw [hrX]
              have hrC : Hid (r.2.1 = (tickL lb.val).2) := by show _ = _; rw [hrX]
              clear hrX
              rw [e8]
              replace e8 := Lib.hid e8
              replace q2 := Lib.hid q2
              have hnb : Hid (0 ≤ lb.now ∧ lb.now ≤ 268435456 ∧ 1 ≤ lb.delay ∧ lb.delay ≤ 60 ∧ 0 ≤ lb.count) := by
                have := hgd.out.nd
                rw [hve.out] at this
                exact this
              obtain ⟨n0, n1, n2, n3, n4, n5⟩ := (show ((((((w8.setCell ⟨g7, 0, none⟩ (Value.int .i64 l2.now)).setCell ⟨g7, 1, none⟩ (Value.int .i64 l2.delay)).setCell ⟨g7, 2, none⟩ (Value.bool l2.cut)).setCell ⟨g7, 3, none⟩ (Value.int .i64 l2.count)).setCell ⟨g7, 4, none⟩ (Value.slice l2.lA l2.ln l2.lc)).setCell ⟨g7, 5, none⟩ (Value.slice l2.bA l2.bn l2.bc)).cell? ⟨g9, 0, none⟩ = some (Value.int .i64 lb.now) ∧ ((((((w8.setCell ⟨g7, 0, none⟩ (Value.int .i64 l2.now)).setCell ⟨g7, 1, none⟩ (Value.int .i64 l2.delay)).setCell ⟨g7, 2, none⟩ (Value.bool l2.cut)).setCell ⟨g7, 3, none⟩ (Value.int .i64 l2.count)).setCell ⟨g7, 4, none⟩ (Value.slice l2.lA l2.ln l2.lc)).setCell ⟨g7, 5, none⟩ (Value.slice l2.bA l2.bn l2.bc)).cell? ⟨g9, 1, none⟩ = some (Value.int .i64 lb.delay) ∧ ((((((w8.setCell ⟨g7, 0, none⟩ (Value.int .i64 l2.now)).setCell ⟨g7, 1, none⟩ (Value.int .i64 l2.delay)).setCell ⟨g7, 2, none⟩ (Value.bool l2.cut)).setCell ⟨g7, 3, none⟩ (Value.int .i64 l2.count)).setCell ⟨g7, 4, none⟩ (Value.slice l2.lA l2.ln l2.lc)).setCell ⟨g7, 5, none⟩ (Value.slice l2.bA l2.bn l2.bc)).cell? ⟨g9, 2, none⟩ = some (Value.bool lb.cut) ∧ ((((((w8.setCell ⟨g7, 0, none⟩ (Value.int .i64 l2.now)).setCell ⟨g7, 1, none⟩ (Value.int .i64 l2.delay)).setCell ⟨g7, 2, none⟩ (Value.bool l2.cut)).setCell ⟨g7, 3, none⟩ (Value.int .i64 l2.count)).setCell ⟨g7, 4, none⟩ (Value.slice l2.lA l2.ln l2.lc)).setCell ⟨g7, 5, none⟩ (Value.slice l2.bA l2.bn l2.bc)).cell? ⟨g9, 3, none⟩ = some (Value.int .i64 lb.count) ∧ ((((((w8.setCell ⟨g7, 0, none⟩ (Value.int .i64 l2.now)).setCell ⟨g7, 1, none⟩ (Value.int .i64 l2.delay)).setCell ⟨g7, 2, none⟩ (Value.bool l2.cut)).setCell ⟨g7, 3, none⟩ (Value.int .i64 l2.count)).setCell ⟨g7, 4, none⟩ (Value.slice l2.lA l2.ln l2.lc)).setCell ⟨g7, 5, none⟩ (Value.slice l2.bA l2.bn l2.bc)).cell? ⟨g9, 4, none⟩ = some (Value.slice lb.lA lb.ln lb.lc) ∧ ((((((w8.setCell ⟨g7, 0, none⟩ (Value.int .i64 l2.now)).setCell ⟨g7, 1, none⟩ (Value.int .i64 l2.delay)).setCell ⟨g7, 2, none⟩ (Value.bool l2.cut)).setCell ⟨g7, 3, none⟩ (Value.int .i64 l2.count)).setCell ⟨g7, 4, none⟩ (Value.slice l2.lA l2.ln l2.lc)).setCell ⟨g7, 5, none⟩ (Value.slice l2.bA l2.bn l2.bc)).cell? ⟨g9, 5, none⟩ = some (Value.slice lb.bA lb.bn lb.bc) from ⟨hB.out.cell 0, hB.out.cell 1, hB.out.cell 2, hB.out.cell 3, hB.out.cell 4, hB.out.cell 5⟩)
              go_wp2_with fail
              clear o0 o1
              clear n0 n1 n2 n3 n4 n5
              generalize ((((((w8.setCell ⟨g7, 0, none⟩ (Value.int .i64 l2.now)).setCell ⟨g7, 1, none⟩ (Value.int .i64 l2.delay)).setCell ⟨g7, 2, none⟩ (Value.bool l2.cut)).setCell ⟨g7, 3, none⟩ (Value.int .i64 l2.count)).setCell ⟨g7, 4, none⟩ (Value.slice l2.lA l2.ln l2.lc)).setCell ⟨g7, 5, none⟩ (Value.slice l2.bA l2.bn l2.bc)) = wc at *
              refine (rtick_any lb wc hokb.out (sm_of (l := lb) (by rw [← hve.out]; exact hgd.out.sm)) ⟨hnb.out.1, hnb.out.2.1⟩).mono ?_; rintro e wd ⟨⟨l3, A7, n7, c7, C7, rfl, hok3, hv3, hD, hDx, hDm, hK3, hDq⟩, hw⟩
              replace hD := Lib.hid hD
              replace hDx := Lib.hid hDx
              replace hDm := Lib.hid hDm
              have hDq9 := Lib.hid (hDq (fun b => b ≠ g9) hqb.out.right)
              clear hDq
              have hq3 : Hid (LkQ (fun b => b ≠ g7 ∧ b ≠ g9) l3) := hK3 _ hqb.out (fun b hb8 => ⟨by have := hA.out.lt; omega, by have := hB.out.lt; omega⟩)
              have hA2 := Lib.hid (hA.out.below hw hA.out.lt)
              have hB2 := Lib.hid (hB.out.below hw hB.out.lt)
              have hok2 := Lib.hid (hok2.out.more hw)
              have hb2 := Lib.hid (hb.out.trans (hw.mono hb.out.size))
              have hCo := Lib.hid (hCo.out.kept hw)
              have hCdo : Hid (∀ b ∈ C6, BOwn wd wr.heap.size (.slice b.A b.n b.c) b.d) := fun b hx => (hCdo.out b hx).kept hw
              replace hv3 : Hid (l3.val = r.1) := hv3.trans hrV.out.symm
              replace hok3 := Lib.hid hok3
              clear hw hK3  hA hB hb hokb
              (try simp only [lkV])
              obtain ⟨b0, b1, b2, b3, b4, b5, z0, z1, z2, z3, z4, z5⟩ := (show wd.cell? ⟨g9, 0, none⟩ = some (Value.int .i64 lb.now) ∧ wd.cell? ⟨g9, 1, none⟩ = some (Value.int .i64 lb.delay) ∧ wd.cell? ⟨g9, 2, none⟩ = some (Value.bool lb.cut) ∧ wd.cell? ⟨g9, 3, none⟩ = some (Value.int .i64 lb.count) ∧ wd.cell? ⟨g9, 4, none⟩ = some (Value.slice lb.lA lb.ln lb.lc) ∧ wd.cell? ⟨g9, 5, none⟩ = some (Value.slice lb.bA lb.bn lb.bc) ∧ wd.frozen? ⟨g9, 0, none⟩ = false ∧ wd.frozen? ⟨g9, 1, none⟩ = false ∧ wd.frozen? ⟨g9, 2, none⟩ = false ∧ wd.frozen? ⟨g9, 3, none⟩ = false ∧ wd.frozen? ⟨g9, 4, none⟩ = false ∧ wd.frozen? ⟨g9, 5, none⟩ = false from ⟨hB2.out.cell 0, hB2.out.cell 1, hB2.out.cell 2, hB2.out.cell 3, hB2.out.cell 4, hB2.out.cell 5, hB2.out.frozen 0, hB2.out.frozen 1, hB2.out.frozen 2, hB2.out.frozen 3, hB2.out.frozen 4, hB2.out.frozen 5⟩)
              have hg2 := Lib.hid (grown_set6 wd g9 (Value.int .i64 l3.now) (Value.int .i64 l3.delay) (Value.bool l3.cut) (Value.int .i64 l3.count) (Value.slice l3.lA l3.ln l3.lc) (Value.slice l3.bA l3.bn l3.bc))
              have hB := Lib.hid (lk_set6 hB2.out (Value.int .i64 l3.now) (Value.int .i64 l3.delay) (Value.bool l3.cut) (Value.int .i64 l3.count) (Value.slice l3.lA l3.ln l3.lc) (Value.slice l3.bA l3.bn l3.bc))
              have hA := Lib.hid (hA2.out.grown hg2.out (by intro e; injection e with e; exact hne.out e))
              have hok2 := Lib.hid (LkOk_q hok2.out hq2.out.right hg2.out)
              have hok3 := Lib.hid (LkOk_q hok3.out hq3.out.right hg2.out)
              have hb := Lib.hid (hb2.out.grown hg2.out hb2.out.size (fun g8 e8 => by injection e8 with e8; rw [← e8]; exact hg9w.out))
              have hCa := Lib.hid (rows_at (hCo.out.grownB hB2.out (by decide) hg2.out))
              have hCd : Hid (∀ b ∈ C6, BsAt ((((((wd.setCell ⟨g9, 0, none⟩ (Value.int .i64 l3.now)).setCell ⟨g9, 1, none⟩ (Value.int .i64 l3.delay)).setCell ⟨g9, 2, none⟩ (Value.bool l3.cut)).setCell ⟨g9, 3, none⟩ (Value.int .i64 l3.count)).setCell ⟨g9, 4, none⟩ (Value.slice l3.lA l3.ln l3.lc)).setCell ⟨g9, 5, none⟩ (Value.slice l3.bA l3.bn l3.bc)) b) := fun b hx => bs_of_own ((hCdo.out b hx).grownB hB2.out (by decide) hg2.out)
              have hDa := Lib.hid (rows_at (hD.out.grownB hB2.out (by decide) hg2.out))
              have hDd : Hid (∀ b ∈ C7, BsAt ((((((wd.setCell ⟨g9, 0, none⟩ (Value.int .i64 l3.now)).setCell ⟨g9, 1, none⟩ (Value.int .i64 l3.delay)).setCell ⟨g9, 2, none⟩ (Value.bool l3.cut)).setCell ⟨g9, 3, none⟩ (Value.int .i64 l3.count)).setCell ⟨g9, 4, none⟩ (Value.slice l3.lA l3.ln l3.lc)).setCell ⟨g9, 5, none⟩ (Value.slice l3.bA l3.bn l3.bc)) b) := fun b hx => ⟨LAt_grown (hDx.out b hx).1 (hDq9.out b hx) hg2.out, (hDx.out b hx).2⟩
              clear hD hDx hDq9
              obtain ⟨m0, m1, m2, m3, m4, m5⟩ := (show ((((((wd.setCell ⟨g9, 0, none⟩ (Value.int .i64 l3.now)).setCell ⟨g9, 1, none⟩ (Value.int .i64 l3.delay)).setCell ⟨g9, 2, none⟩ (Value.bool l3.cut)).setCell ⟨g9, 3, none⟩ (Value.int .i64 l3.count)).setCell ⟨g9, 4, none⟩ (Value.slice l3.lA l3.ln l3.lc)).setCell ⟨g9, 5, none⟩ (Value.slice l3.bA l3.bn l3.bc)).cell? ⟨g7, 0, none⟩ = some (Value.int .i64 l2.now) ∧ ((((((wd.setCell ⟨g9, 0, none⟩ (Value.int .i64 l3.now)).setCell ⟨g9, 1, none⟩ (Value.int .i64 l3.delay)).setCell ⟨g9, 2, none⟩ (Value.bool l3.cut)).setCell ⟨g9, 3, none⟩ (Value.int .i64 l3.count)).setCell ⟨g9, 4, none⟩ (Value.slice l3.lA l3.ln l3.lc)).setCell ⟨g9, 5, none⟩ (Value.slice l3.bA l3.bn l3.bc)).cell? ⟨g7, 1, none⟩ = some (Value.int .i64 l2.delay) ∧ ((((((wd.setCell ⟨g9, 0, none⟩ (Value.int .i64 l3.now)).setCell ⟨g9, 1, none⟩ (Value.int .i64 l3.delay)).setCell ⟨g9, 2, none⟩ (Value.bool l3.cut)).setCell ⟨g9, 3, none⟩ (Value.int .i64 l3.count)).setCell ⟨g9, 4, none⟩ (Value.slice l3.lA l3.ln l3.lc)).setCell ⟨g9, 5, none⟩ (Value.slice l3.bA l3.bn l3.bc)).cell? ⟨g7, 2, none⟩ = some (Value.bool l2.cut) ∧ ((((((wd.setCell ⟨g9, 0, none⟩ (Value.int .i64 l3.now)).setCell ⟨g9, 1, none⟩ (Value.int .i64 l3.delay)).setCell ⟨g9, 2, none⟩ (Value.bool l3.cut)).setCell ⟨g9, 3, none⟩ (Value.int .i64 l3.count)).setCell ⟨g9, 4, none⟩ (Value.slice l3.lA l3.ln l3.lc)).setCell ⟨g9, 5, none⟩ (Value.slice l3.bA l3.bn l3.bc)).cell? ⟨g7, 3, none⟩ = some (Value.int .i64 l2.count) ∧ ((((((wd.setCell ⟨g9, 0, none⟩ (Value.int .i64 l3.now)).setCell ⟨g9, 1, none⟩ (Value.int .i64 l3.delay)).setCell ⟨g9, 2, none⟩ (Value.bool l3.cut)).setCell ⟨g9, 3, none⟩ (Value.int .i64 l3.count)).setCell ⟨g9, 4, none⟩ (Value.slice l3.lA l3.ln l3.lc)).setCell ⟨g9, 5, none⟩ (Value.slice l3.bA l3.bn l3.bc)).cell? ⟨g7, 4, none⟩ = some (Value.slice l2.lA l2.ln l2.lc) ∧ ((((((wd.setCell ⟨g9, 0, none⟩ (Value.int .i64 l3.now)).setCell ⟨g9, 1, none⟩ (Value.int .i64 l3.delay)).setCell ⟨g9, 2, none⟩ (Value.bool l3.cut)).setCell ⟨g9, 3, none⟩ (Value.int .i64 l3.count)).setCell ⟨g9, 4, none⟩ (Value.slice l3.lA l3.ln l3.lc)).setCell ⟨g9, 5, none⟩ (Value.slice l3.bA l3.bn l3.bc)).cell? ⟨g7, 5, none⟩ = some (Value.slice l2.bA l2.bn l2.bc) from ⟨hA.out.cell 0, hA.out.cell 1, hA.out.cell 2, hA.out.cell 3, hA.out.cell 4, hA.out.cell 5⟩)
              obtain ⟨n0, n1, n2, n3, n4, n5⟩ := (show ((((((wd.setCell ⟨g9, 0, none⟩ (Value.int .i64 l3.now)).setCell ⟨g9, 1, none⟩ (Value.int .i64 l3.delay)).setCell ⟨g9, 2, none⟩ (Value.bool l3.cut)).setCell ⟨g9, 3, none⟩ (Value.int .i64 l3.count)).setCell ⟨g9, 4, none⟩ (Value.slice l3.lA l3.ln l3.lc)).setCell ⟨g9, 5, none⟩ (Value.slice l3.bA l3.bn l3.bc)).cell? ⟨g9, 0, none⟩ = some (Value.int .i64 l3.now) ∧ ((((((wd.setCell ⟨g9, 0, none⟩ (Value.int .i64 l3.now)).setCell ⟨g9, 1, none⟩ (Value.int .i64 l3.delay)).setCell ⟨g9, 2, none⟩ (Value.bool l3.cut)).setCell ⟨g9, 3, none⟩ (Value.int .i64 l3.count)).setCell ⟨g9, 4, none⟩ (Value.slice l3.lA l3.ln l3.lc)).setCell ⟨g9, 5, none⟩ (Value.slice l3.bA l3.bn l3.bc)).cell? ⟨g9, 1, none⟩ = some (Value.int .i64 l3.delay) ∧ ((((((wd.setCell ⟨g9, 0, none⟩ (Value.int .i64 l3.now)).setCell ⟨g9, 1, none⟩ (Value.int .i64 l3.delay)).setCell ⟨g9, 2, none⟩ (Value.bool l3.cut)).setCell ⟨g9, 3, none⟩ (Value.int .i64 l3.count)).setCell ⟨g9, 4, none⟩ (Value.slice l3.lA l3.ln l3.lc)).setCell ⟨g9, 5, none⟩ (Value.slice l3.bA l3.bn l3.bc)).cell? ⟨g9, 2, none⟩ = some (Value.bool l3.cut) ∧ ((((((wd.setCell ⟨g9, 0, none⟩ (Value.int .i64 l3.now)).setCell ⟨g9, 1, none⟩ (Value.int .i64 l3.delay)).setCell ⟨g9, 2, none⟩ (Value.bool l3.cut)).setCell ⟨g9, 3, none⟩ (Value.int .i64 l3.count)).setCell ⟨g9, 4, none⟩ (Value.slice l3.lA l3.ln l3.lc)).setCell ⟨g9, 5, none⟩ (Value.slice l3.bA l3.bn l3.bc)).cell? ⟨g9, 3, none⟩ = some (Value.int .i64 l3.count) ∧ ((((((wd.setCell ⟨g9, 0, none⟩ (Value.int .i64 l3.now)).setCell ⟨g9, 1, none⟩ (Value.int .i64 l3.delay)).setCell ⟨g9, 2, none⟩ (Value.bool l3.cut)).setCell ⟨g9, 3, none⟩ (Value.int .i64 l3.count)).setCell ⟨g9, 4, none⟩ (Value.slice l3.lA l3.ln l3.lc)).setCell ⟨g9, 5, none⟩ (Value.slice l3.bA l3.bn l3.bc)).cell? ⟨g9, 4, none⟩ = some (Value.slice l3.lA l3.ln l3.lc) ∧ ((((((wd.setCell ⟨g9, 0, none⟩ (Value.int .i64 l3.now)).setCell ⟨g9, 1, none⟩ (Value.int .i64 l3.delay)).setCell ⟨g9, 2, none⟩ (Value.bool l3.cut)).setCell ⟨g9, 3, none⟩ (Value.int .i64 l3.count)).setCell ⟨g9, 4, none⟩ (Value.slice l3.lA l3.ln l3.lc)).setCell ⟨g9, 5, none⟩ (Value.slice l3.bA l3.bn l3.bc)).cell? ⟨g9, 5, none⟩ = some (Value.slice l3.bA l3.bn l3.bc) from ⟨hB.out.cell 0, hB.out.cell 1, hB.out.cell 2, hB.out.cell 3, hB.out.cell 4, hB.out.cell 5⟩)
              clear hA2 hB2 hb2 hCo hCdo hg2
              go_wp2_with fail
              clear b0 b1 b2 b3 b4 b5 z0 z1 z2 z3 z4 z5 m0 m1 m2 m3 m4 m5 n0 n1 n2 n3 n4 n5
              generalize ((((((wd.setCell ⟨g9, 0, none⟩ (Value.int .i64 l3.now)).setCell ⟨g9, 1, none⟩ (Value.int .i64 l3.delay)).setCell ⟨g9, 2, none⟩ (Value.bool l3.cut)).setCell ⟨g9, 3, none⟩ (Value.int .i64 l3.count)).setCell ⟨g9, 4, none⟩ (Value.slice l3.lA l3.ln l3.lc)).setCell ⟨g9, 5, none⟩ (Value.slice l3.bA l3.bn l3.bc)) = wf at *
              have hsm2 : Hid (l2.lose.length ≤ 1000 ∧ l2.box.length ≤ 1000) := by
                have := sm_of (l := l2) (by rw [hv2.out]; exact hgp.out.sm)
                exact ⟨this.1, this.2.1⟩
              refine (same_any l2 l3 wf hok2.out hok3.out (hv2.out.trans hv3.out.symm) hsm2.out.1 hsm2.out.2).mono ?_; rintro e wg ⟨rfl, hq⟩
              have hA := Lib.hid (hA.out.below hq hA.out.lt)
              have hB := Lib.hid (hB.out.below hq hB.out.lt)
              have hok2 := Lib.hid (hok2.out.more hq)
              have hok3 := Lib.hid (hok3.out.more hq)
              have hb := Lib.hid (hb.out.trans (hq.mono hb.out.size))
              have hCa := Lib.hid (hCa.out.more hq)
              have hCd : Hid (∀ b ∈ C6, BsAt wg b) := fun b hx => (hCd.out b hx).more hq
              have hDa := Lib.hid (hDa.out.more hq)
              have hDd : Hid (∀ b ∈ C7, BsAt wg b) := fun b hx => (hDd.out b hx).more hq
              clear hq
              have hsd := Lib.hid (sameData_any A6 A7 n6 c6 n7 c7 C6 C7 wg hCa.out hDa.out hCd.out hDd.out (hCm.out.trans (hrC.out.trans hDm.out.symm)) (by
                have e1 := hCa.out.len
                have e2 := congrArg List.length hCm.out
                have e3 := hfew.out
                rw [List.length_map] at e2
                omega))
              go_wp2_with fail
              refine hsd.out.mono ?_; rintro e wh ⟨rfl, rfl⟩
              clear hsd
              obtain ⟨a0, a1, a2, a3, a4, a5⟩ := (show wh.cell? ⟨g7, 0, none⟩ = some (Value.int .i64 l2.now) ∧ wh.cell? ⟨g7, 1, none⟩ = some (Value.int .i64 l2.delay) ∧ wh.cell? ⟨g7, 2, none⟩ = some (Value.bool l2.cut) ∧ wh.cell? ⟨g7, 3, none⟩ = some (Value.int .i64 l2.count) ∧ wh.cell? ⟨g7, 4, none⟩ = some (Value.slice l2.lA l2.ln l2.lc) ∧ wh.cell? ⟨g7, 5, none⟩ = some (Value.slice l2.bA l2.bn l2.bc) from ⟨hA.out.cell 0, hA.out.cell 1, hA.out.cell 2, hA.out.cell 3, hA.out.cell 4, hA.out.cell 5⟩)
              have hva := valid_any l2 wh hok2.out hsm2.out.1 hsm2.out.2
              rw [hv2.out, valid_of _ hgp.out] at hva
              simp only [lkV] at hva
              replace hva := Lib.hid hva
              go_wp2_with fail
              refine hva.out.mono ?_; rintro e wi ⟨rfl, hq⟩
              clear a0 a1 a2 a3 a4 a5 hva
              have hA := Lib.hid (hA.out.below hq hA.out.lt)
              have hB := Lib.hid (hB.out.below hq hB.out.lt)
              have hok2 := Lib.hid (hok2.out.more hq)
              have hok3 := Lib.hid (hok3.out.more hq)
              have hb := Lib.hid (hb.out.trans (hq.mono hb.out.size))
              go_wp2_with fail
              go_roundw
              case rel => exact ⟨k + 1, l2, l3, by omega, by go_num, hA.out, hB.out, hok2.out, hok3.out, hv2.out.trans hv3.out.symm, by show Good _; rw [hv2.out]; exact hgp.out, hq2.out, hq3.out, hb.out⟩
              case measure => simp [intOf]; omega
            · have q2d : (kd == 2) = false := by simpa using q2
              by_cases q3 : kd = 3
              · have q3d : (kd == 3) = true := by simpa using q3
                have hrX : r = (cutL lb.val true, [], 0) := by rw [hr.out, q3, ← hve.out]; rfl
                have e8 : r.2.2 = 0 := by rw [hrX]
                have hrV : Hid (r.1 = cutL lb.val true) := by show _ = _; rw [hrX]
                have hrC : Hid (r.2.1 = []) := by show _ = _; rw [hrX]
                have hkd : Hid ((kd == 3) = true) := q3d
                clear hrX
                rw [e8]
                replace e8 := Lib.hid e8
                replace q3 := Lib.hid q3
                go_wp2_with fail
                clear o0 o1
                generalize ((((((w8.setCell ⟨g7, 0, none⟩ (Value.int .i64 l2.now)).setCell ⟨g7, 1, none⟩ (Value.int .i64 l2.delay)).setCell ⟨g7, 2, none⟩ (Value.bool l2.cut)).setCell ⟨g7, 3, none⟩ (Value.int .i64 l2.count)).setCell ⟨g7, 4, none⟩ (Value.slice l2.lA l2.ln l2.lc)).setCell ⟨g7, 5, none⟩ (Value.slice l2.bA l2.bn l2.bc)) = wc at *
                have hcell9 : Hid (∀ wz, Below wc.heap.size wc wz → wz.cell? ⟨g9, 0, none⟩ = some (Value.int .i64 lb.now) ∧ wz.cell? ⟨g9, 1, none⟩ = some (Value.int .i64 lb.delay) ∧ wz.cell? ⟨g9, 2, none⟩ = some (Value.bool lb.cut) ∧ wz.cell? ⟨g9, 3, none⟩ = some (Value.int .i64 lb.count) ∧ wz.cell? ⟨g9, 4, none⟩ = some (Value.slice lb.lA lb.ln lb.lc) ∧ wz.cell? ⟨g9, 5, none⟩ = some (Value.slice lb.bA lb.bn lb.bc)) := fun wz hz => by
                  have q := hB.out.below hz hB.out.lt
                  exact ⟨q.cell 0, q.cell 1, q.cell 2, q.cell 3, q.cell 4, q.cell 5⟩
                have hcell9z : Hid (∀ wz, Below wc.heap.size wc wz → wz.cell? ⟨g9, 0, none⟩ = some (Value.int .i64 lb.now) ∧ wz.cell? ⟨g9, 1, none⟩ = some (Value.int .i64 lb.delay) ∧ wz.cell? ⟨g9, 2, none⟩ = some (Value.bool lb.cut) ∧ wz.cell? ⟨g9, 3, none⟩ = some (Value.int .i64 lb.count) ∧ wz.cell? ⟨g9, 4, none⟩ = some (Value.slice lb.lA lb.ln lb.lc) ∧ wz.cell? ⟨g9, 5, none⟩ = some (Value.slice lb.bA lb.bn lb.bc) ∧ wz.frozen? ⟨g9, 0, none⟩ = false ∧ wz.frozen? ⟨g9, 1, none⟩ = false ∧ wz.frozen? ⟨g9, 2, none⟩ = false ∧ wz.frozen? ⟨g9, 3, none⟩ = false ∧ wz.frozen? ⟨g9, 4, none⟩ = false ∧ wz.frozen? ⟨g9, 5, none⟩ = false) := fun wz hz => by
                  have q := hB.out.below hz hB.out.lt
                  exact ⟨q.cell 0, q.cell 1, q.cell 2, q.cell 3, q.cell 4, q.cell 5, q.frozen 0, q.frozen 1, q.frozen 2, q.frozen 3, q.frozen 4, q.frozen 5⟩
                have hltB : Hid (g9 < wc.heap.size) := hB.out.lt
                have hcello : Hid (∀ wz, Below wc.heap.size wc wz → wz.cell? (ad.add (k * 2)) = some (Value.int .i64 kd) ∧ wz.cell? ⟨(ad.add (k * 2)).block, (ad.add (k * 2)).off + 1, none⟩ = some (Value.slice oA od.length oc)) := fun wz hz => hop.out wz (hb.out.trans (hz.mono hb.out.size))
                have hcut : Hid (∀ wz, Below wc.heap.size wc wz → Calls Try.prog 22 #[lkV lb, .bool true] wz fun e w' => (∃ v9, e = .returned v9 ∧ PlA wc.heap.size g9 lb (cutL lb.val true) v9 w') ∧ Below wz.heap.size wz w') := fun wz hz => (rcut_any lb true wz (hokb.out.more hz)).mono (by
                  rintro e w' ⟨l', he, h1, h2, h3, h4⟩
                  exact ⟨⟨_, he, l', rfl, h1, h2, h3.base hz.size, h3 _ hqb.out.right (fun b hb8 => by have := hB.out.lt; have := hz.size; omega)⟩, h4⟩)
                refine RU.region [] [] 8 (F := F5c g9 n2 c2 k wc.heap.size ad lb kd true) (W := fun wz => Below wc.heap.size wc wz) (R := fun _ => Rb) rfl F5c_more (by kernel_rfl) (by kernel_rfl) (by kernel_rfl) (by kernel_rfl) (by kernel_rfl) (by kernel_rfl) ?_ ?_ ?_ ?_
                · exact (Below.refl _ _).drew
                · intro t ht
                  unfold F5c
                  split <;> first | trivial | exact rfl | (exact absurd ht (by decide))
                · intro i o hi ho
                  have hcs : i = 0 ∨ i = 1 ∨ i = 2 ∨ i = 3 ∨ i = 4 ∨ i = 5 ∨ i = 6 ∨ i = 7 := by omega
                  rcases hcs with rfl | rfl | rfl | rfl | rfl | rfl | rfl | rfl <;> (injection ho with ho; subst ho)
                  · intro a w2 hw _ hf K hK
                    have f0 := hf 9 rfl
                    simp only [F5c] at f0
                    clear hf
                    obtain ⟨b0, b1, b2, b3, b4, b5⟩ := hcell9.out w2 hw
                    go_simp
                    exact hK _ _ _ rfl rfl hw (Below.refl _ _) (fun h => absurd h (by decide))
                  · intro a w2 hw _ hf K hK
                    have f0 := hf 2 rfl
                    simp only [F5c] at f0
                    clear hf
                    go_simp
                    exact hK _ _ _ rfl rfl hw (Below.refl _ _) (fun h => absurd h (by decide))
                  · intro a w2 hw _ hf K hK
                    have f0 := hf 11 rfl
                    simp only [F5c] at f0
                    clear hf
                    go_simp
                    exact hK _ _ _ rfl rfl hw (Below.refl _ _) (fun h => absurd h (by decide))
                  · intro a w2 hw _ hf K hK
                    have f0 := hf 89 rfl
                    have f1 := hf 90 rfl
                    simp only [F5c] at f0 f1
                    clear hf
                    go_simp
                    exact hK _ _ _ rfl rfl hw (Below.refl _ _) (fun h => absurd h (by decide))
                  · intro a w2 hw _ hf K hK
                    have f0 := hf 91 rfl
                    simp only [F5c] at f0
                    clear hf
                    go_simp
                    exact hK _ _ _ rfl rfl hw (Below.refl _ _) (fun h => absurd h (by decide))
                  · intro a w2 hw _ hf K hK
                    have f0 := hf 92 rfl
                    simp only [F5c] at f0
                    clear hf
                    obtain ⟨o0, o1⟩ := hcello.out w2 hw
                    go_simp
                    exact hK _ _ _ rfl rfl hw (Below.refl _ _) (fun h => absurd h (by decide))
                  · intro a w2 hw _ hf K hK
                    have f0 := hf 93 rfl
                    simp only [F5c] at f0
                    clear hf
                    have e := hkd.out
                    go_simp
                    exact hK _ _ _ rfl (by first | rfl | exact congrArg Value.bool e) hw (Below.refl _ _) (fun h => absurd h (by decide))
                  · intro a w2 hw _ hf K hK
                    have f0 := hf 88 rfl
                    have f1 := hf 94 rfl
                    simp only [F5c] at f0 f1
                    clear hf
                    go_simp
                    refine (hcut.out w2 hw).mono ?_; rintro e w5 ⟨hP, hbq⟩
                    obtain ⟨v9, rfl, hT⟩ := hP
                    exact hK _ _ _ rfl hT (hw.trans (hbq.mono hw.size)) hbq (fun h => absurd h (by decide))
                · intro a' w9 hd hs hw hout hf
                  have h95 := hf 7 95 (by decide) rfl rfl
                  simp only [F5c] at h95
                  have e0 : _ = some (Value.int .i64 delay) := hout 0 rfl
                  have e1 : _ = some (Value.slice A1 n1 c1) := hout 1 rfl
                  have e2 : _ = some (Value.slice (some ad) n2 c2) := hout 2 rfl
                  have e7 : _ = some (Value.pointer (some ⟨g7, 0, none⟩)) := hout 7 rfl
                  have e9 : _ = some (Value.pointer (some ⟨g9, 0, none⟩)) := hout 9 rfl
                  have e11 : _ = some (Value.int .i64 (k : Int)) := hout 11 rfl
                  have e13 : _ = some (Value.slice none 0 0) := hout 13 rfl
                  have e3 : _ = some (undef) := hout 3 rfl
                  have e4 : _ = some (undef) := hout 4 rfl
                  have e5 : _ = some (undef) := hout 5 rfl
                  have e14 : _ = some (Value.slice A1 n1 c1) := hout 14 rfl
                  have e15 : _ = some (Value.int .i64 n1) := hout 15 rfl
                  have e16 : _ = some (Value.bool false) := hout 16 rfl
                  have e17 : _ = some (Value.bool false) := hout 17 rfl
                  have e18 : _ = some (Value.slice (some ad) n2 c2) := hout 18 rfl
                  have e19 : _ = some (Value.bool false) := hout 19 rfl
                  have e20 : _ = some (Value.bool false) := hout 20 rfl
                  have e21 : _ = some (undef) := hout 21 rfl
                  have e22 : _ = some (Value.tuple #[.agg #[Value.int .i64 la0.now, Value.int .i64 la0.delay, Value.bool la0.cut, Value.int .i64 la0.count, Value.slice la0.lA la0.ln la0.lc, Value.slice la0.bA la0.bn la0.bc], .int .i64 0]) := hout 22 rfl
                  have e23 : _ = some (Value.int .i64 delay) := hout 23 rfl
                  have e24 : _ = some (Value.slice A1 n1 c1) := hout 24 rfl
                  have e25 : _ = some (Value.tuple #[.agg #[Value.int .i64 la0.now, Value.int .i64 la0.delay, Value.bool la0.cut, Value.int .i64 la0.count, Value.slice la0.lA la0.ln la0.lc, Value.slice la0.bA la0.bn la0.bc], .int .i64 0]) := hout 25 rfl
                  have e26 : _ = some (Value.agg #[Value.int .i64 la0.now, Value.int .i64 la0.delay, Value.bool la0.cut, Value.int .i64 la0.count, Value.slice la0.lA la0.ln la0.lc, Value.slice la0.bA la0.bn la0.bc]) := hout 26 rfl
                  have e27 : _ = some (Value.int .i64 0) := hout 27 rfl
                  have e28 : _ = some (Value.tuple #[.agg #[Value.int .i64 lb0.now, Value.int .i64 lb0.delay, Value.bool lb0.cut, Value.int .i64 lb0.count, Value.slice lb0.lA lb0.ln lb0.lc, Value.slice lb0.bA lb0.bn lb0.bc], .int .i64 0]) := hout 28 rfl
                  have e29 : _ = some (Value.int .i64 delay) := hout 29 rfl
                  have e30 : _ = some (Value.slice A1 n1 c1) := hout 30 rfl
                  have e31 : _ = some (Value.tuple #[.agg #[Value.int .i64 lb0.now, Value.int .i64 lb0.delay, Value.bool lb0.cut, Value.int .i64 lb0.count, Value.slice lb0.lA lb0.ln lb0.lc, Value.slice lb0.bA lb0.bn lb0.bc], .int .i64 0]) := hout 31 rfl
                  have e32 : _ = some (Value.agg #[Value.int .i64 lb0.now, Value.int .i64 lb0.delay, Value.bool lb0.cut, Value.int .i64 lb0.count, Value.slice lb0.lA lb0.ln lb0.lc, Value.slice lb0.bA lb0.bn lb0.bc]) := hout 32 rfl
                  have e33 : _ = some (Value.int .i64 0) := hout 33 rfl
                  have e34 : _ = some (Value.int .i64 0) := hout 34 rfl
                  have e35 : _ = some (Value.int .i64 0) := hout 35 rfl
                  have e36 : _ = some (Value.bool false) := hout 36 rfl
                  have e37 : _ = some (Value.bool false) := hout 37 rfl
                  have e38 : _ = some (Value.agg #[Value.int .i64 la0.now, Value.int .i64 la0.delay, Value.bool la0.cut, Value.int .i64 la0.count, Value.slice la0.lA la0.ln la0.lc, Value.slice la0.bA la0.bn la0.bc]) := hout 38 rfl
                  have e39 : _ = some (Value.agg #[Value.int .i64 lb0.now, Value.int .i64 lb0.delay, Value.bool lb0.cut, Value.int .i64 lb0.count, Value.slice lb0.lA lb0.ln lb0.lc, Value.slice lb0.bA lb0.bn lb0.bc]) := hout 39 rfl
                  have e40 : _ = some (Value.bool true) := hout 40 rfl
                  have e41 : _ = some (Value.bool false) := hout 41 rfl
                  have e42 : _ = some (Value.bool false) := hout 42 rfl
                  have e43 : _ = some (Value.int .i64 0) := hout 43 rfl
                  have e44 : _ = some (Value.bool false) := hout 44 rfl
                  have e45 : _ = some (undef) := hout 45 rfl
                  have e46 : _ = some (Value.slice (some ad) n2 c2) := hout 46 rfl
                  have e47 : _ = some (Value.int .i64 n2) := hout 47 rfl
                  have e48 : _ = some (Value.int .i64 (k : Int)) := hout 48 rfl
                  have e117 : _ = some (undef) := hout 117 rfl
                  have e8 : _ = some (Value.int .i64 0) := hout 8 rfl
                  have e12 : _ = some (Value.slice A6 n6 c6) := hout 12 rfl
                  have e10 : _ = some (Value.int .i64 0) := hout 10 rfl
                  obtain ⟨tm, df⟩ := a'
                  simp only at hd hs h95 e0 e1 e2 e7 e9 e11 e13 e3 e4 e5 e14 e15 e16 e17 e18 e19 e20 e21 e22 e23 e24 e25 e26 e27 e28 e29 e30 e31 e32 e33 e34 e35 e36 e37 e38 e39 e40 e41 e42 e43 e44 e45 e46 e47 e48 e117 e8 e12 e10
                  have e := lit_arr tm 118 hs
                  rw [show (List.range 118).map (fun i => tm[i]?.getD undef) = [tm[0]?.getD undef, tm[1]?.getD undef, tm[2]?.getD undef, tm[3]?.getD undef, tm[4]?.getD undef, tm[5]?.getD undef, tm[6]?.getD undef, tm[7]?.getD undef, tm[8]?.getD undef, tm[9]?.getD undef, tm[10]?.getD undef, tm[11]?.getD undef, tm[12]?.getD undef, tm[13]?.getD undef, tm[14]?.getD undef, tm[15]?.getD undef, tm[16]?.getD undef, tm[17]?.getD undef, tm[18]?.getD undef, tm[19]?.getD undef, tm[20]?.getD undef, tm[21]?.getD undef, tm[22]?.getD undef, tm[23]?.getD undef, tm[24]?.getD undef, tm[25]?.getD undef, tm[26]?.getD undef, tm[27]?.getD undef, tm[28]?.getD undef, tm[29]?.getD undef, tm[30]?.getD undef, tm[31]?.getD undef, tm[32]?.getD undef, tm[33]?.getD undef, tm[34]?.getD undef, tm[35]?.getD undef, tm[36]?.getD undef, tm[37]?.getD undef, tm[38]?.getD undef, tm[39]?.getD undef, tm[40]?.getD undef, tm[41]?.getD undef, tm[42]?.getD undef, tm[43]?.getD undef, tm[44]?.getD undef, tm[45]?.getD undef, tm[46]?.getD undef, tm[47]?.getD undef, tm[48]?.getD undef, tm[49]?.getD undef, tm[50]?.getD undef, tm[51]?.getD undef, tm[52]?.getD undef, tm[53]?.getD undef, tm[54]?.getD undef, tm[55]?.getD undef, tm[56]?.getD undef, tm[57]?.getD undef, tm[58]?.getD undef, tm[59]?.getD undef, tm[60]?.getD undef, tm[61]?.getD undef, tm[62]?.getD undef, tm[63]?.getD undef, tm[64]?.getD undef, tm[65]?.getD undef, tm[66]?.getD undef, tm[67]?.getD undef, tm[68]?.getD undef, tm[69]?.getD undef, tm[70]?.getD undef, tm[71]?.getD undef, tm[72]?.getD undef, tm[73]?.getD undef, tm[74]?.getD undef, tm[75]?.getD undef, tm[76]?.getD undef, tm[77]?.getD undef, tm[78]?.getD undef, tm[79]?.getD undef, tm[80]?.getD undef, tm[81]?.getD undef, tm[82]?.getD undef, tm[83]?.getD undef, tm[84]?.getD undef, tm[85]?.getD undef, tm[86]?.getD undef, tm[87]?.getD undef, tm[88]?.getD undef, tm[89]?.getD undef, tm[90]?.getD undef, tm[91]?.getD undef, tm[92]?.getD undef, tm[93]?.getD undef, tm[94]?.getD undef, tm[95]?.getD undef, tm[96]?.getD undef, tm[97]?.getD undef, tm[98]?.getD undef, tm[99]?.getD undef, tm[100]?.getD undef, tm[101]?.getD undef, tm[102]?.getD undef, tm[103]?.getD undef, tm[104]?.getD undef, tm[105]?.getD undef, tm[106]?.getD undef, tm[107]?.getD undef, tm[108]?.getD undef, tm[109]?.getD undef, tm[110]?.getD undef, tm[111]?.getD undef, tm[112]?.getD undef, tm[113]?.getD undef, tm[114]?.getD undef, tm[115]?.getD undef, tm[116]?.getD undef, tm[117]?.getD undef] from rfl] at e
                  simp only [e0, e1, e2, e7, e9, e11, e13, e3, e4, e5, e14, e15, e16, e17, e18, e19, e20, e21, e22, e23, e24, e25, e26, e27, e28, e29, e30, e31, e32, e33, e34, e35, e36, e37, e38, e39, e40, e41, e42, e43, e44, e45, e46, e47, e48, e117, e8, e12, e10, Option.getD_some] at e
                  clear hf hout hs
                  rw [e, hd]
                  clear e hd e0 e1 e2 e7 e9 e11 e13 e3 e4 e5 e14 e15 e16 e17 e18 e19 e20 e21 e22 e23 e24 e25 e26 e27 e28 e29 e30 e31 e32 e33 e34 e35 e36 e37 e38 e39 e40 e41 e42 e43 e44 e45 e46 e47 e48 e117 e8 e12 e10
                  generalize tm[6]?.getD undef = u6x
                  generalize tm[49]?.getD undef = u49x
                  generalize tm[50]?.getD undef = u50x
                  generalize tm[51]?.getD undef = u51x
                  generalize tm[52]?.getD undef = u52x
                  generalize tm[53]?.getD undef = u53x
                  generalize tm[54]?.getD undef = u54x
                  generalize tm[55]?.getD undef = u55x
                  generalize tm[56]?.getD undef = u56x
                  generalize tm[57]?.getD undef = u57x
                  generalize tm[58]?.getD undef = u58x
                  generalize tm[59]?.getD undef = u59x
                  generalize tm[60]?.getD undef = u60x
                  generalize tm[61]?.getD undef = u61x
                  generalize tm[62]?.getD undef = u62x
                  generalize tm[63]?.getD undef = u63x
                  generalize tm[64]?.getD undef = u64x
                  generalize tm[65]?.getD undef = u65x
                  generalize tm[66]?.getD undef = u66x
                  generalize tm[67]?.getD undef = u67x
                  generalize tm[68]?.getD undef = u68x
                  generalize tm[69]?.getD undef = u69x
                  generalize tm[70]?.getD undef = u70x
                  generalize tm[71]?.getD undef = u71x
                  generalize tm[72]?.getD undef = u72x
                  generalize tm[73]?.getD undef = u73x
                  generalize tm[74]?.getD undef = u74x
                  generalize tm[75]?.getD undef = u75x
                  generalize tm[76]?.getD undef = u76x
                  generalize tm[77]?.getD undef = u77x
                  generalize tm[78]?.getD undef = u78x
                  generalize tm[79]?.getD undef = u79x
                  generalize tm[80]?.getD undef = u80x
                  generalize tm[81]?.getD undef = u81x
                  generalize tm[82]?.getD undef = u82x
                  generalize tm[83]?.getD undef = u83x
                  generalize tm[84]?.getD undef = u84x
                  generalize tm[85]?.getD undef = u85x
                  generalize tm[86]?.getD undef = u86x
                  generalize tm[87]?.getD undef = u87x
                  generalize tm[88]?.getD undef = u88x
                  generalize tm[89]?.getD undef = u89x
                  generalize tm[90]?.getD undef = u90x
                  generalize tm[91]?.getD undef = u91x
                  generalize tm[92]?.getD undef = u92x
                  generalize tm[93]?.getD undef = u93x
                  generalize tm[94]?.getD undef = u94x
                  generalize tm[95]?.getD undef = u95x at h95 ⊢
                  generalize tm[96]?.getD undef = u96x
                  generalize tm[97]?.getD undef = u97x
                  generalize tm[98]?.getD undef = u98x
                  generalize tm[99]?.getD undef = u99x
                  generalize tm[100]?.getD undef = u100x
                  generalize tm[101]?.getD undef = u101x
                  generalize tm[102]?.getD undef = u102x
                  generalize tm[103]?.getD undef = u103x
                  generalize tm[104]?.getD undef = u104x
                  generalize tm[105]?.getD undef = u105x
                  generalize tm[106]?.getD undef = u106x
                  generalize tm[107]?.getD undef = u107x
                  generalize tm[108]?.getD undef = u108x
                  generalize tm[109]?.getD undef = u109x
                  generalize tm[110]?.getD undef = u110x
                  generalize tm[111]?.getD undef = u111x
                  generalize tm[112]?.getD undef = u112x
                  generalize tm[113]?.getD undef = u113x
                  generalize tm[114]?.getD undef = u114x
                  generalize tm[115]?.getD undef = u115x
                  generalize tm[116]?.getD undef = u116x
                  obtain ⟨l3, rfl, hok3, hv3, hK3, -⟩ := h95
                  have hq3 : Hid (LkQ (fun b => b ≠ g7 ∧ b ≠ g9) l3) := hK3 _ hqb.out (fun b hb8 => ⟨by have := hA.out.lt; omega, by have := hB.out.lt; omega⟩)
                  have hA2 := Lib.hid (hA.out.below hw hA.out.lt)
                  have hB2 := Lib.hid (hB.out.below hw hB.out.lt)
                  have hok2 := Lib.hid (hok2.out.more hw)
                  have hb2 := Lib.hid (hb.out.trans (hw.mono hb.out.size))
                  have hCo := Lib.hid (hCo.out.kept hw)
                  have hCdo : Hid (∀ b ∈ C6, BOwn w9 wr.heap.size (.slice b.A b.n b.c) b.d) := fun b hx => (hCdo.out b hx).kept hw
                  replace hv3 : Hid (l3.val = r.1) := hv3.trans hrV.out.symm
                  replace hok3 := Lib.hid hok3
                  clear hw hK3 hcell9 hcell9z hltB hcello hcut hA hB hb hokb
                  (try simp only [lkV])
                  obtain ⟨b0, b1, b2, b3, b4, b5, z0, z1, z2, z3, z4, z5⟩ := (show w9.cell? ⟨g9, 0, none⟩ = some (Value.int .i64 lb.now) ∧ w9.cell? ⟨g9, 1, none⟩ = some (Value.int .i64 lb.delay) ∧ w9.cell? ⟨g9, 2, none⟩ = some (Value.bool lb.cut) ∧ w9.cell? ⟨g9, 3, none⟩ = some (Value.int .i64 lb.count) ∧ w9.cell? ⟨g9, 4, none⟩ = some (Value.slice lb.lA lb.ln lb.lc) ∧ w9.cell? ⟨g9, 5, none⟩ = some (Value.slice lb.bA lb.bn lb.bc) ∧ w9.frozen? ⟨g9, 0, none⟩ = false ∧ w9.frozen? ⟨g9, 1, none⟩ = false ∧ w9.frozen? ⟨g9, 2, none⟩ = false ∧ w9.frozen? ⟨g9, 3, none⟩ = false ∧ w9.frozen? ⟨g9, 4, none⟩ = false ∧ w9.frozen? ⟨g9, 5, none⟩ = false from ⟨hB2.out.cell 0, hB2.out.cell 1, hB2.out.cell 2, hB2.out.cell 3, hB2.out.cell 4, hB2.out.cell 5, hB2.out.frozen 0, hB2.out.frozen 1, hB2.out.frozen 2, hB2.out.frozen 3, hB2.out.frozen 4, hB2.out.frozen 5⟩)
                  have hg2 := Lib.hid (grown_set6 w9 g9 (Value.int .i64 l3.now) (Value.int .i64 l3.delay) (Value.bool l3.cut) (Value.int .i64 l3.count) (Value.slice l3.lA l3.ln l3.lc) (Value.slice l3.bA l3.bn l3.bc))
                  have hB := Lib.hid (lk_set6 hB2.out (Value.int .i64 l3.now) (Value.int .i64 l3.delay) (Value.bool l3.cut) (Value.int .i64 l3.count) (Value.slice l3.lA l3.ln l3.lc) (Value.slice l3.bA l3.bn l3.bc))
                  have hA := Lib.hid (hA2.out.grown hg2.out (by intro e; injection e with e; exact hne.out e))
                  have hok2 := Lib.hid (LkOk_q hok2.out hq2.out.right hg2.out)
                  have hok3 := Lib.hid (LkOk_q hok3.out hq3.out.right hg2.out)
                  have hb := Lib.hid (hb2.out.grown hg2.out hb2.out.size (fun g8 e8 => by injection e8 with e8; rw [← e8]; exact hg9w.out))
                  have hCa := Lib.hid (rows_at (hCo.out.grownB hB2.out (by decide) hg2.out))
                  have hCd : Hid (∀ b ∈ C6, BsAt ((((((w9.setCell ⟨g9, 0, none⟩ (Value.int .i64 l3.now)).setCell ⟨g9, 1, none⟩ (Value.int .i64 l3.delay)).setCell ⟨g9, 2, none⟩ (Value.bool l3.cut)).setCell ⟨g9, 3, none⟩ (Value.int .i64 l3.count)).setCell ⟨g9, 4, none⟩ (Value.slice l3.lA l3.ln l3.lc)).setCell ⟨g9, 5, none⟩ (Value.slice l3.bA l3.bn l3.bc)) b) := fun b hx => bs_of_own ((hCdo.out b hx).grownB hB2.out (by decide) hg2.out)
                  obtain ⟨m0, m1, m2, m3, m4, m5⟩ := (show ((((((w9.setCell ⟨g9, 0, none⟩ (Value.int .i64 l3.now)).setCell ⟨g9, 1, none⟩ (Value.int .i64 l3.delay)).setCell ⟨g9, 2, none⟩ (Value.bool l3.cut)).setCell ⟨g9, 3, none⟩ (Value.int .i64 l3.count)).setCell ⟨g9, 4, none⟩ (Value.slice l3.lA l3.ln l3.lc)).setCell ⟨g9, 5, none⟩ (Value.slice l3.bA l3.bn l3.bc)).cell? ⟨g7, 0, none⟩ = some (Value.int .i64 l2.now) ∧ ((((((w9.setCell ⟨g9, 0, none⟩ (Value.int .i64 l3.now)).setCell ⟨g9, 1, none⟩ (Value.int .i64 l3.delay)).setCell ⟨g9, 2, none⟩ (Value.bool l3.cut)).setCell ⟨g9, 3, none⟩ (Value.int .i64 l3.count)).setCell ⟨g9, 4, none⟩ (Value.slice l3.lA l3.ln l3.lc)).setCell ⟨g9, 5, none⟩ (Value.slice l3.bA l3.bn l3.bc)).cell? ⟨g7, 1, none⟩ = some (Value.int .i64 l2.delay) ∧ ((((((w9.setCell ⟨g9, 0, none⟩ (Value.int .i64 l3.now)).setCell ⟨g9, 1, none⟩ (Value.int .i64 l3.delay)).setCell ⟨g9, 2, none⟩ (Value.bool l3.cut)).setCell ⟨g9, 3, none⟩ (Value.int .i64 l3.count)).setCell ⟨g9, 4, none⟩ (Value.slice l3.lA l3.ln l3.lc)).setCell ⟨g9, 5, none⟩ (Value.slice l3.bA l3.bn l3.bc)).cell? ⟨g7, 2, none⟩ = some (Value.bool l2.cut) ∧ ((((((w9.setCell ⟨g9, 0, none⟩ (Value.int .i64 l3.now)).setCell ⟨g9, 1, none⟩ (Value.int .i64 l3.delay)).setCell ⟨g9, 2, none⟩ (Value.bool l3.cut)).setCell ⟨g9, 3, none⟩ (Value.int .i64 l3.count)).setCell ⟨g9, 4, none⟩ (Value.slice l3.lA l3.ln l3.lc)).setCell ⟨g9, 5, none⟩ (Value.slice l3.bA l3.bn l3.bc)).cell? ⟨g7, 3, none⟩ = some (Value.int .i64 l2.count) ∧ ((((((w9.setCell ⟨g9, 0, none⟩ (Value.int .i64 l3.now)).setCell ⟨g9, 1, none⟩ (Value.int .i64 l3.delay)).setCell ⟨g9, 2, none⟩ (Value.bool l3.cut)).setCell ⟨g9, 3, none⟩ (Value.int .i64 l3.count)).setCell ⟨g9, 4, none⟩ (Value.slice l3.lA l3.ln l3.lc)).setCell ⟨g9, 5, none⟩ (Value.slice l3.bA l3.bn l3.bc)).cell? ⟨g7, 4, none⟩ = some (Value.slice l2.lA l2.ln l2.lc) ∧ ((((((w9.setCell ⟨g9, 0, none⟩ (Value.int .i64 l3.now)).setCell ⟨g9, 1, none⟩ (Value.int .i64 l3.delay)).setCell ⟨g9, 2, none⟩ (Value.bool l3.cut)).setCell ⟨g9, 3, none⟩ (Value.int .i64 l3.count)).setCell ⟨g9, 4, none⟩ (Value.slice l3.lA l3.ln l3.lc)).setCell ⟨g9, 5, none⟩ (Value.slice l3.bA l3.bn l3.bc)).cell? ⟨g7, 5, none⟩ = some (Value.slice l2.bA l2.bn l2.bc) from ⟨hA.out.cell 0, hA.out.cell 1, hA.out.cell 2, hA.out.cell 3, hA.out.cell 4, hA.out.cell 5⟩)
                  obtain ⟨n0, n1, n2, n3, n4, n5⟩ := (show ((((((w9.setCell ⟨g9, 0, none⟩ (Value.int .i64 l3.now)).setCell ⟨g9, 1, none⟩ (Value.int .i64 l3.delay)).setCell ⟨g9, 2, none⟩ (Value.bool l3.cut)).setCell ⟨g9, 3, none⟩ (Value.int .i64 l3.count)).setCell ⟨g9, 4, none⟩ (Value.slice l3.lA l3.ln l3.lc)).setCell ⟨g9, 5, none⟩ (Value.slice l3.bA l3.bn l3.bc)).cell? ⟨g9, 0, none⟩ = some (Value.int .i64 l3.now) ∧ ((((((w9.setCell ⟨g9, 0, none⟩ (Value.int .i64 l3.now)).setCell ⟨g9, 1, none⟩ (Value.int .i64 l3.delay)).setCell ⟨g9, 2, none⟩ (Value.bool l3.cut)).setCell ⟨g9, 3, none⟩ (Value.int .i64 l3.count)).setCell ⟨g9, 4, none⟩ (Value.slice l3.lA l3.ln l3.lc)).setCell ⟨g9, 5, none⟩ (Value.slice l3.bA l3.bn l3.bc)).cell? ⟨g9, 1, none⟩ = some (Value.int .i64 l3.delay) ∧ ((((((w9.setCell ⟨g9, 0, none⟩ (Value.int .i64 l3.now)).setCell ⟨g9, 1, none⟩ (Value.int .i64 l3.delay)).setCell ⟨g9, 2, none⟩ (Value.bool l3.cut)).setCell ⟨g9, 3, none⟩ (Value.int .i64 l3.count)).setCell ⟨g9, 4, none⟩ (Value.slice l3.lA l3.ln l3.lc)).setCell ⟨g9, 5, none⟩ (Value.slice l3.bA l3.bn l3.bc)).cell? ⟨g9, 2, none⟩ = some (Value.bool l3.cut) ∧ ((((((w9.setCell ⟨g9, 0, none⟩ (Value.int .i64 l3.now)).setCell ⟨g9, 1, none⟩ (Value.int .i64 l3.delay)).setCell ⟨g9, 2, none⟩ (Value.bool l3.cut)).setCell ⟨g9, 3, none⟩ (Value.int .i64 l3.count)).setCell ⟨g9, 4, none⟩ (Value.slice l3.lA l3.ln l3.lc)).setCell ⟨g9, 5, none⟩ (Value.slice l3.bA l3.bn l3.bc)).cell? ⟨g9, 3, none⟩ = some (Value.int .i64 l3.count) ∧ ((((((w9.setCell ⟨g9, 0, none⟩ (Value.int .i64 l3.now)).setCell ⟨g9, 1, none⟩ (Value.int .i64 l3.delay)).setCell ⟨g9, 2, none⟩ (Value.bool l3.cut)).setCell ⟨g9, 3, none⟩ (Value.int .i64 l3.count)).setCell ⟨g9, 4, none⟩ (Value.slice l3.lA l3.ln l3.lc)).setCell ⟨g9, 5, none⟩ (Value.slice l3.bA l3.bn l3.bc)).cell? ⟨g9, 4, none⟩ = some (Value.slice l3.lA l3.ln l3.lc) ∧ ((((((w9.setCell ⟨g9, 0, none⟩ (Value.int .i64 l3.now)).setCell ⟨g9, 1, none⟩ (Value.int .i64 l3.delay)).setCell ⟨g9, 2, none⟩ (Value.bool l3.cut)).setCell ⟨g9, 3, none⟩ (Value.int .i64 l3.count)).setCell ⟨g9, 4, none⟩ (Value.slice l3.lA l3.ln l3.lc)).setCell ⟨g9, 5, none⟩ (Value.slice l3.bA l3.bn l3.bc)).cell? ⟨g9, 5, none⟩ = some (Value.slice l3.bA l3.bn l3.bc) from ⟨hB.out.cell 0, hB.out.cell 1, hB.out.cell 2, hB.out.cell 3, hB.out.cell 4, hB.out.cell 5⟩)
                  clear hA2 hB2 hb2 hCo hCdo hg2
                  go_wp2_with fail
                  clear b0 b1 b2 b3 b4 b5 z0 z1 z2 z3 z4 z5 m0 m1 m2 m3 m4 m5 n0 n1 n2 n3 n4 n5
                  generalize ((((((w9.setCell ⟨g9, 0, none⟩ (Value.int .i64 l3.now)).setCell ⟨g9, 1, none⟩ (Value.int .i64 l3.delay)).setCell ⟨g9, 2, none⟩ (Value.bool l3.cut)).setCell ⟨g9, 3, none⟩ (Value.int .i64 l3.count)).setCell ⟨g9, 4, none⟩ (Value.slice l3.lA l3.ln l3.lc)).setCell ⟨g9, 5, none⟩ (Value.slice l3.bA l3.bn l3.bc)) = wf at *
                  have hsm2 : Hid (l2.lose.length ≤ 1000 ∧ l2.box.length ≤ 1000) := by
                    have := sm_of (l := l2) (by rw [hv2.out]; exact hgp.out.sm)
                    exact ⟨this.1, this.2.1⟩
                  refine (same_any l2 l3 wf hok2.out hok3.out (hv2.out.trans hv3.out.symm) hsm2.out.1 hsm2.out.2).mono ?_; rintro e wg ⟨rfl, hq⟩
                  have hA := Lib.hid (hA.out.below hq hA.out.lt)
                  have hB := Lib.hid (hB.out.below hq hB.out.lt)
                  have hok2 := Lib.hid (hok2.out.more hq)
                  have hok3 := Lib.hid (hok3.out.more hq)
                  have hb := Lib.hid (hb.out.trans (hq.mono hb.out.size))
                  have hCa := Lib.hid (hCa.out.more hq)
                  have hCd : Hid (∀ b ∈ C6, BsAt wg b) := fun b hx => (hCd.out b hx).more hq
                  skip
                  clear hq
                  have hsd := Lib.hid (sameData_any A6 none n6 c6 0 0 C6 [] wg hCa.out (LAt.nil sC_len _ _) hCd.out (fun b hx => by simp at hx) (hCm.out.trans (by rw [hrC.out]; rfl)) (by
                    have e1 := hCa.out.len
                    have e2 := congrArg List.length hCm.out
                    have e3 := hfew.out
                    rw [List.length_map] at e2
                    omega))
                  go_wp2_with fail
                  refine hsd.out.mono ?_; rintro e wh ⟨rfl, rfl⟩
                  clear hsd
                  obtain ⟨a0, a1, a2, a3, a4, a5⟩ := (show wh.cell? ⟨g7, 0, none⟩ = some (Value.int .i64 l2.now) ∧ wh.cell? ⟨g7, 1, none⟩ = some (Value.int .i64 l2.delay) ∧ wh.cell? ⟨g7, 2, none⟩ = some (Value.bool l2.cut) ∧ wh.cell? ⟨g7, 3, none⟩ = some (Value.int .i64 l2.count) ∧ wh.cell? ⟨g7, 4, none⟩ = some (Value.slice l2.lA l2.ln l2.lc) ∧ wh.cell? ⟨g7, 5, none⟩ = some (Value.slice l2.bA l2.bn l2.bc) from ⟨hA.out.cell 0, hA.out.cell 1, hA.out.cell 2, hA.out.cell 3, hA.out.cell 4, hA.out.cell 5⟩)
                  have hva := valid_any l2 wh hok2.out hsm2.out.1 hsm2.out.2
                  rw [hv2.out, valid_of _ hgp.out] at hva
                  simp only [lkV] at hva
                  replace hva := Lib.hid hva
                  go_wp2_with fail
                  refine hva.out.mono ?_; rintro e wi ⟨rfl, hq⟩
                  clear a0 a1 a2 a3 a4 a5 hva
                  have hA := Lib.hid (hA.out.below hq hA.out.lt)
                  have hB := Lib.hid (hB.out.below hq hB.out.lt)
                  have hok2 := Lib.hid (hok2.out.more hq)
                  have hok3 := Lib.hid (hok3.out.more hq)
                  have hb := Lib.hid (hb.out.trans (hq.mono hb.out.size))
                  go_wp2_with fail
                  go_roundw
                  case rel => exact ⟨k + 1, l2, l3, by omega, by go_num, hA.out, hB.out, hok2.out, hok3.out, hv2.out.trans hv3.out.symm, by show Good _; rw [hv2.out]; exact hgp.out, hq2.out, hq3.out, hb.out⟩
                  case measure => simp [intOf]; omega
              · have q3d : (kd == 3) = false := by simpa using q3
                by_cases q4 : kd = 4
                · have q4d : (kd == 4) = true := by simpa using q4
                  have hrX : r = (cutL lb.val false, [], 0) := by rw [hr.out, q4, ← hve.out]; rfl
                  have e8 : r.2.2 = 0 := by rw [hrX]
                  have hrV : Hid (r.1 = cutL lb.val false) := by show _ = _; rw [hrX]
                  have hrC : Hid (r.2.1 = []) := by show _ = _; rw [hrX]
                  have hkd : Hid ((kd == 3) = false) := q3d
                  clear hrX
                  rw [e8]
                  replace e8 := Lib.hid e8
                  replace q4 := Lib.hid q4
                  go_wp2_with fail
                  clear o0 o1
                  generalize ((((((w8.setCell ⟨g7, 0, none⟩ (Value.int .i64 l2.now)).setCell ⟨g7, 1, none⟩ (Value.int .i64 l2.delay)).setCell ⟨g7, 2, none⟩ (Value.bool l2.cut)).setCell ⟨g7, 3, none⟩ (Value.int .i64 l2.count)).setCell ⟨g7, 4, none⟩ (Value.slice l2.lA l2.ln l2.lc)).setCell ⟨g7, 5, none⟩ (Value.slice l2.bA l2.bn l2.bc)) = wc at *
                  have hcell9 : Hid (∀ wz, Below wc.heap.size wc wz → wz.cell? ⟨g9, 0, none⟩ = some (Value.int .i64 lb.now) ∧ wz.cell? ⟨g9, 1, none⟩ = some (Value.int .i64 lb.delay) ∧ wz.cell? ⟨g9, 2, none⟩ = some (Value.bool lb.cut) ∧ wz.cell? ⟨g9, 3, none⟩ = some (Value.int .i64 lb.count) ∧ wz.cell? ⟨g9, 4, none⟩ = some (Value.slice lb.lA lb.ln lb.lc) ∧ wz.cell? ⟨g9, 5, none⟩ = some (Value.slice lb.bA lb.bn lb.bc)) := fun wz hz => by
                    have q := hB.out.below hz hB.out.lt
                    exact ⟨q.cell 0, q.cell 1, q.cell 2, q.cell 3, q.cell 4, q.cell 5⟩
                  have hcell9z : Hid (∀ wz, Below wc.heap.size wc wz → wz.cell? ⟨g9, 0, none⟩ = some (Value.int .i64 lb.now) ∧ wz.cell? ⟨g9, 1, none⟩ = some (Value.int .i64 lb.delay) ∧ wz.cell? ⟨g9, 2, none⟩ = some (Value.bool lb.cut) ∧ wz.cell? ⟨g9, 3, none⟩ = some (Value.int .i64 lb.count) ∧ wz.cell? ⟨g9, 4, none⟩ = some (Value.slice lb.lA lb.ln lb.lc) ∧ wz.cell? ⟨g9, 5, none⟩ = some (Value.slice lb.bA lb.bn lb.bc) ∧ wz.frozen? ⟨g9, 0, none⟩ = false ∧ wz.frozen? ⟨g9, 1, none⟩ = false ∧ wz.frozen? ⟨g9, 2, none⟩ = false ∧ wz.frozen? ⟨g9, 3, none⟩ = false ∧ wz.frozen? ⟨g9, 4, none⟩ = false ∧ wz.frozen? ⟨g9, 5, none⟩ = false) := fun wz hz => by
                    have q := hB.out.below hz hB.out.lt
                    exact ⟨q.cell 0, q.cell 1, q.cell 2, q.cell 3, q.cell 4, q.cell 5, q.frozen 0, q.frozen 1, q.frozen 2, q.frozen 3, q.frozen 4, q.frozen 5⟩
                  have hltB : Hid (g9 < wc.heap.size) := hB.out.lt
                  have hcello : Hid (∀ wz, Below wc.heap.size wc wz → wz.cell? (ad.add (k * 2)) = some (Value.int .i64 kd) ∧ wz.cell? ⟨(ad.add (k * 2)).block, (ad.add (k * 2)).off + 1, none⟩ = some (Value.slice oA od.length oc)) := fun wz hz => hop.out wz (hb.out.trans (hz.mono hb.out.size))
                  have hcut : Hid (∀ wz, Below wc.heap.size wc wz → Calls Try.prog 22 #[lkV lb, .bool false] wz fun e w' => (∃ v9, e = .returned v9 ∧ PlA wc.heap.size g9 lb (cutL lb.val false) v9 w') ∧ Below wz.heap.size wz w') := fun wz hz => (rcut_any lb false wz (hokb.out.more hz)).mono (by
                    rintro e w' ⟨l', he, h1, h2, h3, h4⟩
                    exact ⟨⟨_, he, l', rfl, h1, h2, h3.base hz.size, h3 _ hqb.out.right (fun b hb8 => by have := hB.out.lt; have := hz.size; omega)⟩, h4⟩)
                  refine RU.region [] [] 8 (F := F5c g9 n2 c2 k wc.heap.size ad lb kd false) (W := fun wz => Below wc.heap.size wc wz) (R := fun _ => Rb) rfl F5c_more (by kernel_rfl) (by kernel_rfl) (by kernel_rfl) (by kernel_rfl) (by kernel_rfl) (by kernel_rfl) ?_ ?_ ?_ ?_
                  · exact (Below.refl _ _).drew
                  · intro t ht
                    unfold F5c
                    split <;> first | trivial | exact rfl | (exact absurd ht (by decide))
                  · intro i o hi ho
                    have hcs : i = 0 ∨ i = 1 ∨ i = 2 ∨ i = 3 ∨ i = 4 ∨ i = 5 ∨ i = 6 ∨ i = 7 := by omega
                    rcases hcs with rfl | rfl | rfl | rfl | rfl | rfl | rfl | rfl <;> (injection ho with ho; subst ho)
                    · intro a w2 hw _ hf K hK
                      have f0 := hf 9 rfl
                      simp only [F5c] at f0
                      clear hf
                      obtain ⟨b0, b1, b2, b3, b4, b5⟩ := hcell9.out w2 hw
                      go_simp
                      exact hK _ _ _ rfl rfl hw (Below.refl _ _) (fun h => absurd h (by decide))
                    · intro a w2 hw _ hf K hK
                      have f0 := hf 2 rfl
                      simp only [F5c] at f0
                      clear hf
                      go_simp
                      exact hK _ _ _ rfl rfl hw (Below.refl _ _) (fun h => absurd h (by decide))
                    · intro a w2 hw _ hf K hK
                      have f0 := hf 11 rfl
                      simp only [F5c] at f0
                      clear hf
                      go_simp
                      exact hK _ _ _ rfl rfl hw (Below.refl _ _) (fun h => absurd h (by decide))
                    · intro a w2 hw _ hf K hK
                      have f0 := hf 89 rfl
                      have f1 := hf 90 rfl
                      simp only [F5c] at f0 f1
                      clear hf
                      go_simp
                      exact hK _ _ _ rfl rfl hw (Below.refl _ _) (fun h => absurd h (by decide))
                    · intro a w2 hw _ hf K hK
                      have f0 := hf 91 rfl
                      simp only [F5c] at f0
                      clear hf
                      go_simp
                      exact hK _ _ _ rfl rfl hw (Below.refl _ _) (fun h => absurd h (by decide))
                    · intro a w2 hw _ hf K hK
                      have f0 := hf 92 rfl
                      simp only [F5c] at f0
                      clear hf
                      obtain ⟨o0, o1⟩ := hcello.out w2 hw
                      go_simp
                      exact hK _ _ _ rfl rfl hw (Below.refl _ _) (fun h => absurd h (by decide))
                    · intro a w2 hw _ hf K hK
                      have f0 := hf 93 rfl
                      simp only [F5c] at f0
                      clear hf
                      have e := hkd.out
                      go_simp
                      exact hK _ _ _ rfl (by first | rfl | exact congrArg Value.bool e) hw (Below.refl _ _) (fun h => absurd h (by decide))
                    · intro a w2 hw _ hf K hK
                      have f0 := hf 88 rfl
                      have f1 := hf 94 rfl
                      simp only [F5c] at f0 f1
                      clear hf
                      go_simp
                      refine (hcut.out w2 hw).mono ?_; rintro e w5 ⟨hP, hbq⟩
                      obtain ⟨v9, rfl, hT⟩ := hP
                      exact hK _ _ _ rfl hT (hw.trans (hbq.mono hw.size)) hbq (fun h => absurd h (by decide))
                  · intro a' w9 hd hs hw hout hf
                    have h95 := hf 7 95 (by decide) rfl rfl
                    simp only [F5c] at h95
                    have e0 : _ = some (Value.int .i64 delay) := hout 0 rfl
                    have e1 : _ = some (Value.slice A1 n1 c1) := hout 1 rfl
                    have e2 : _ = some (Value.slice (some ad) n2 c2) := hout 2 rfl
                    have e7 : _ = some (Value.pointer (some ⟨g7, 0, none⟩)) := hout 7 rfl
                    have e9 : _ = some (Value.pointer (some ⟨g9, 0, none⟩)) := hout 9 rfl
                    have e11 : _ = some (Value.int .i64 (k : Int)) := hout 11 rfl
                    have e13 : _ = some (Value.slice none 0 0) := hout 13 rfl
                    have e3 : _ = some (undef) := hout 3 rfl
                    have e4 : _ = some (undef) := hout 4 rfl
                    have e5 : _ = some (undef) := hout 5 rfl
                    have e14 : _ = some (Value.slice A1 n1 c1) := hout 14 rfl
                    have e15 : _ = some (Value.int .i64 n1) := hout 15 rfl
                    have e16 : _ = some (Value.bool false) := hout 16 rfl
                    have e17 : _ = some (Value.bool false) := hout 17 rfl
                    have e18 : _ = some (Value.slice (some ad) n2 c2) := hout 18 rfl
                    have e19 : _ = some (Value.bool false) := hout 19 rfl
                    have e20 : _ = some (Value.bool false) := hout 20 rfl
                    have e21 : _ = some (undef) := hout 21 rfl
                    have e22 : _ = some (Value.tuple #[.agg #[Value.int .i64 la0.now, Value.int .i64 la0.delay, Value.bool la0.cut, Value.int .i64 la0.count, Value.slice la0.lA la0.ln la0.lc, Value.slice la0.bA la0.bn la0.bc], .int .i64 0]) := hout 22 rfl
                    have e23 : _ = some (Value.int .i64 delay) := hout 23 rfl
                    have e24 : _ = some (Value.slice A1 n1 c1) := hout 24 rfl
                    have e25 : _ = some (Value.tuple #[.agg #[Value.int .i64 la0.now, Value.int .i64 la0.delay, Value.bool la0.cut, Value.int .i64 la0.count, Value.slice la0.lA la0.ln la0.lc, Value.slice la0.bA la0.bn la0.bc], .int .i64 0]) := hout 25 rfl
                    have e26 : _ = some (Value.agg #[Value.int .i64 la0.now, Value.int .i64 la0.delay, Value.bool la0.cut, Value.int .i64 la0.count, Value.slice la0.lA la0.ln la0.lc, Value.slice la0.bA la0.bn la0.bc]) := hout 26 rfl
                    have e27 : _ = some (Value.int .i64 0) := hout 27 rfl
                    have e28 : _ = some (Value.tuple #[.agg #[Value.int .i64 lb0.now, Value.int .i64 lb0.delay, Value.bool lb0.cut, Value.int .i64 lb0.count, Value.slice lb0.lA lb0.ln lb0.lc, Value.slice lb0.bA lb0.bn lb0.bc], .int .i64 0]) := hout 28 rfl
                    have e29 : _ = some (Value.int .i64 delay) := hout 29 rfl
                    have e30 : _ = some (Value.slice A1 n1 c1) := hout 30 rfl
                    have e31 : _ = some (Value.tuple #[.agg #[Value.int .i64 lb0.now, Value.int .i64 lb0.delay, Value.bool lb0.cut, Value.int .i64 lb0.count, Value.slice lb0.lA lb0.ln lb0.lc, Value.slice lb0.bA lb0.bn lb0.bc], .int .i64 0]) := hout 31 rfl
                    have e32 : _ = some (Value.agg #[Value.int .i64 lb0.now, Value.int .i64 lb0.delay, Value.bool lb0.cut, Value.int .i64 lb0.count, Value.slice lb0.lA lb0.ln lb0.lc, Value.slice lb0.bA lb0.bn lb0.bc]) := hout 32 rfl
                    have e33 : _ = some (Value.int .i64 0) := hout 33 rfl
                    have e34 : _ = some (Value.int .i64 0) := hout 34 rfl
                    have e35 : _ = some (Value.int .i64 0) := hout 35 rfl
                    have e36 : _ = some (Value.bool false) := hout 36 rfl
                    have e37 : _ = some (Value.bool false) := hout 37 rfl
                    have e38 : _ = some (Value.agg #[Value.int .i64 la0.now, Value.int .i64 la0.delay, Value.bool la0.cut, Value.int .i64 la0.count, Value.slice la0.lA la0.ln la0.lc, Value.slice la0.bA la0.bn la0.bc]) := hout 38 rfl
                    have e39 : _ = some (Value.agg #[Value.int .i64 lb0.now, Value.int .i64 lb0.delay, Value.bool lb0.cut, Value.int .i64 lb0.count, Value.slice lb0.lA lb0.ln lb0.lc, Value.slice lb0.bA lb0.bn lb0.bc]) := hout 39 rfl
                    have e40 : _ = some (Value.bool true) := hout 40 rfl
                    have e41 : _ = some (Value.bool false) := hout 41 rfl
                    have e42 : _ = some (Value.bool false) := hout 42 rfl
                    have e43 : _ = some (Value.int .i64 0) := hout 43 rfl
                    have e44 : _ = some (Value.bool false) := hout 44 rfl
                    have e45 : _ = some (undef) := hout 45 rfl
                    have e46 : _ = some (Value.slice (some ad) n2 c2) := hout 46 rfl
                    have e47 : _ = some (Value.int .i64 n2) := hout 47 rfl
                    have e48 : _ = some (Value.int .i64 (k : Int)) := hout 48 rfl
                    have e117 : _ = some (undef) := hout 117 rfl
                    have e8 : _ = some (Value.int .i64 0) := hout 8 rfl
                    have e12 : _ = some (Value.slice A6 n6 c6) := hout 12 rfl
                    have e10 : _ = some (Value.int .i64 0) := hout 10 rfl
                    obtain ⟨tm, df⟩ := a'
                    simp only at hd hs h95 e0 e1 e2 e7 e9 e11 e13 e3 e4 e5 e14 e15 e16 e17 e18 e19 e20 e21 e22 e23 e24 e25 e26 e27 e28 e29 e30 e31 e32 e33 e34 e35 e36 e37 e38 e39 e40 e41 e42 e43 e44 e45 e46 e47 e48 e117 e8 e12 e10
                    have e := lit_arr tm 118 hs
                    rw [show (List.range 118).map (fun i => tm[i]?.getD undef) = [tm[0]?.getD undef, tm[1]?.getD undef, tm[2]?.getD undef, tm[3]?.getD undef, tm[4]?.getD undef, tm[5]?.getD undef, tm[6]?.getD undef, tm[7]?.getD undef, tm[8]?.getD undef, tm[9]?.getD undef, tm[10]?.getD undef, tm[11]?.getD undef, tm[12]?.getD undef, tm[13]?.getD undef, tm[14]?.getD undef, tm[15]?.getD undef, tm[16]?.getD undef, tm[17]?.getD undef, tm[18]?.getD undef, tm[19]?.getD undef, tm[20]?.getD undef, tm[21]?.getD undef, tm[22]?.getD undef, tm[23]?.getD undef, tm[24]?.getD undef, tm[25]?.getD undef, tm[26]?.getD undef, tm[27]?.getD undef, tm[28]?.getD undef, tm[29]?.getD undef, tm[30]?.getD undef, tm[31]?.getD undef, tm[32]?.getD undef, tm[33]?.getD undef, tm[34]?.getD undef, tm[35]?.getD undef, tm[36]?.getD undef, tm[37]?.getD undef, tm[38]?.getD undef, tm[39]?.getD undef, tm[40]?.getD undef, tm[41]?.getD undef, tm[42]?.getD undef, tm[43]?.getD undef, tm[44]?.getD undef, tm[45]?.getD undef, tm[46]?.getD undef, tm[47]?.getD undef, tm[48]?.getD undef, tm[49]?.getD undef, tm[50]?.getD undef, tm[51]?.getD undef, tm[52]?.getD undef, tm[53]?.getD undef, tm[54]?.getD undef, tm[55]?.getD undef, tm[56]?.getD undef, tm[57]?.getD undef, tm[58]?.getD undef, tm[59]?.getD undef, tm[60]?.getD undef, tm[61]?.getD undef, tm[62]?.getD undef, tm[63]?.getD undef, tm[64]?.getD undef, tm[65]?.getD undef, tm[66]?.getD undef, tm[67]?.getD undef, tm[68]?.getD undef, tm[69]?.getD undef, tm[70]?.getD undef, tm[71]?.getD undef, tm[72]?.getD undef, tm[73]?.getD undef, tm[74]?.getD undef, tm[75]?.getD undef, tm[76]?.getD undef, tm[77]?.getD undef, tm[78]?.getD undef, tm[79]?.getD undef, tm[80]?.getD undef, tm[81]?.getD undef, tm[82]?.getD undef, tm[83]?.getD undef, tm[84]?.getD undef, tm[85]?.getD undef, tm[86]?.getD undef, tm[87]?.getD undef, tm[88]?.getD undef, tm[89]?.getD undef, tm[90]?.getD undef, tm[91]?.getD undef, tm[92]?.getD undef, tm[93]?.getD undef, tm[94]?.getD undef, tm[95]?.getD undef, tm[96]?.getD undef, tm[97]?.getD undef, tm[98]?.getD undef, tm[99]?.getD undef, tm[100]?.getD undef, tm[101]?.getD undef, tm[102]?.getD undef, tm[103]?.getD undef, tm[104]?.getD undef, tm[105]?.getD undef, tm[106]?.getD undef, tm[107]?.getD undef, tm[108]?.getD undef, tm[109]?.getD undef, tm[110]?.getD undef, tm[111]?.getD undef, tm[112]?.getD undef, tm[113]?.getD undef, tm[114]?.getD undef, tm[115]?.getD undef, tm[116]?.getD undef, tm[117]?.getD undef] from rfl] at e
                    simp only [e0, e1, e2, e7, e9, e11, e13, e3, e4, e5, e14, e15, e16, e17, e18, e19, e20, e21, e22, e23, e24, e25, e26, e27, e28, e29, e30, e31, e32, e33, e34, e35, e36, e37, e38, e39, e40, e41, e42, e43, e44, e45, e46, e47, e48, e117, e8, e12, e10, Option.getD_some] at e
                    clear hf hout hs
                    rw [e, hd]
                    clear e hd e0 e1 e2 e7 e9 e11 e13 e3 e4 e5 e14 e15 e16 e17 e18 e19 e20 e21 e22 e23 e24 e25 e26 e27 e28 e29 e30 e31 e32 e33 e34 e35 e36 e37 e38 e39 e40 e41 e42 e43 e44 e45 e46 e47 e48 e117 e8 e12 e10
                    generalize tm[6]?.getD undef = u6x
                    generalize tm[49]?.getD undef = u49x
                    generalize tm[50]?.getD undef = u50x
                    generalize tm[51]?.getD undef = u51x
                    generalize tm[52]?.getD undef = u52x
                    generalize tm[53]?.getD undef = u53x
                    generalize tm[54]?.getD undef = u54x
                    generalize tm[55]?.getD undef = u55x
                    generalize tm[56]?.getD undef = u56x
                    generalize tm[57]?.getD undef = u57x
                    generalize tm[58]?.getD undef = u58x
                    generalize tm[59]?.getD undef = u59x
                    generalize tm[60]?.getD undef = u60x
                    generalize tm[61]?.getD undef = u61x
                    generalize tm[62]?.getD undef = u62x
                    generalize tm[63]?.getD undef = u63x
                    generalize tm[64]?.getD undef = u64x
                    generalize tm[65]?.getD undef = u65x
                    generalize tm[66]?.getD undef = u66x
                    generalize tm[67]?.getD undef = u67x
                    generalize tm[68]?.getD undef = u68x
                    generalize tm[69]?.getD undef = u69x
                    generalize tm[70]?.getD undef = u70x
                    generalize tm[71]?.getD undef = u71x
                    generalize tm[72]?.getD undef = u72x
                    generalize tm[73]?.getD undef = u73x
                    generalize tm[74]?.getD undef = u74x
                    generalize tm[75]?.getD undef = u75x
                    generalize tm[76]?.getD undef = u76x
                    generalize tm[77]?.getD undef = u77x
                    generalize tm[78]?.getD undef = u78x
                    generalize tm[79]?.getD undef = u79x
                    generalize tm[80]?.getD undef = u80x
                    generalize tm[81]?.getD undef = u81x
                    generalize tm[82]?.getD undef = u82x
                    generalize tm[83]?.getD undef = u83x
                    generalize tm[84]?.getD undef = u84x
                    generalize tm[85]?.getD undef = u85x
                    generalize tm[86]?.getD undef = u86x
                    generalize tm[87]?.getD undef = u87x
                    generalize tm[88]?.getD undef = u88x
                    generalize tm[89]?.getD undef = u89x
                    generalize tm[90]?.getD undef = u90x
                    generalize tm[91]?.getD undef = u91x
                    generalize tm[92]?.getD undef = u92x
                    generalize tm[93]?.getD undef = u93x
                    generalize tm[94]?.getD undef = u94x
                    generalize tm[95]?.getD undef = u95x at h95 ⊢
                    generalize tm[96]?.getD undef = u96x
                    generalize tm[97]?.getD undef = u97x
                    generalize tm[98]?.getD undef = u98x
                    generalize tm[99]?.getD undef = u99x
                    generalize tm[100]?.getD undef = u100x
                    generalize tm[101]?.getD undef = u101x
                    generalize tm[102]?.getD undef = u102x
                    generalize tm[103]?.getD undef = u103x
                    generalize tm[104]?.getD undef = u104x
                    generalize tm[105]?.getD undef = u105x
                    generalize tm[106]?.getD undef = u106x
                    generalize tm[107]?.getD undef = u107x
                    generalize tm[108]?.getD undef = u108x
                    generalize tm[109]?.getD undef = u109x
                    generalize tm[110]?.getD undef = u110x
                    generalize tm[111]?.getD undef = u111x
                    generalize tm[112]?.getD undef = u112x
                    generalize tm[113]?.getD undef = u113x
                    generalize tm[114]?.getD undef = u114x
                    generalize tm[115]?.getD undef = u115x
                    generalize tm[116]?.getD undef = u116x
                    obtain ⟨l3, rfl, hok3, hv3, hK3, -⟩ := h95
                    have hq3 : Hid (LkQ (fun b => b ≠ g7 ∧ b ≠ g9) l3) := hK3 _ hqb.out (fun b hb8 => ⟨by have := hA.out.lt; omega, by have := hB.out.lt; omega⟩)
                    have hA2 := Lib.hid (hA.out.below hw hA.out.lt)
                    have hB2 := Lib.hid (hB.out.below hw hB.out.lt)
                    have hok2 := Lib.hid (hok2.out.more hw)
                    have hb2 := Lib.hid (hb.out.trans (hw.mono hb.out.size))
                    have hCo := Lib.hid (hCo.out.kept hw)
                    have hCdo : Hid (∀ b ∈ C6, BOwn w9 wr.heap.size (.slice b.A b.n b.c) b.d) := fun b hx => (hCdo.out b hx).kept hw
                    replace hv3 : Hid (l3.val = r.1) := hv3.trans hrV.out.symm
                    replace hok3 := Lib.hid hok3
                    clear hw hK3 hcell9 hcell9z hltB hcello hcut hA hB hb hokb
                    (try simp only [lkV])
                    obtain ⟨b0, b1, b2, b3, b4, b5, z0, z1, z2, z3, z4, z5⟩ := (show w9.cell? ⟨g9, 0, none⟩ = some (Value.int .i64 lb.now) ∧ w9.cell? ⟨g9, 1, none⟩ = some (Value.int .i64 lb.delay) ∧ w9.cell? ⟨g9, 2, none⟩ = some (Value.bool lb.cut) ∧ w9.cell? ⟨g9, 3, none⟩ = some (Value.int .i64 lb.count) ∧ w9.cell? ⟨g9, 4, none⟩ = some (Value.slice lb.lA lb.ln lb.lc) ∧ w9.cell? ⟨g9, 5, none⟩ = some (Value.slice lb.bA lb.bn lb.bc) ∧ w9.frozen? ⟨g9, 0, none⟩ = false ∧ w9.frozen? ⟨g9, 1, none⟩ = false ∧ w9.frozen? ⟨g9, 2, none⟩ = false ∧ w9.frozen? ⟨g9, 3, none⟩ = false ∧ w9.frozen? ⟨g9, 4, none⟩ = false ∧ w9.frozen? ⟨g9, 5, none⟩ = false from ⟨hB2.out.cell 0, hB2.out.cell 1, hB2.out.cell 2, hB2.out.cell 3, hB2.out.cell 4, hB2.out.cell 5, hB2.out.frozen 0, hB2.out.frozen 1, hB2.out.frozen 2, hB2.out.frozen 3, hB2.out.frozen 4, hB2.out.frozen 5⟩)
                    have hg2 := Lib.hid (grown_set6 w9 g9 (Value.int .i64 l3.now) (Value.int .i64 l3.delay) (Value.bool l3.cut) (Value.int .i64 l3.count) (Value.slice l3.lA l3.ln l3.lc) (Value.slice l3.bA l3.bn l3.bc))
                    have hB := Lib.hid (lk_set6 hB2.out (Value.int .i64 l3.now) (Value.int .i64 l3.delay) (Value.bool l3.cut) (Value.int .i64 l3.count) (Value.slice l3.lA l3.ln l3.lc) (Value.slice l3.bA l3.bn l3.bc))
                    have hA := Lib.hid (hA2.out.grown hg2.out (by intro e; injection e with e; exact hne.out e))
                    have hok2 := Lib.hid (LkOk_q hok2.out hq2.out.right hg2.out)
                    have hok3 := Lib.hid (LkOk_q hok3.out hq3.out.right hg2.out)
                    have hb := Lib.hid (hb2.out.grown hg2.out hb2.out.size (fun g8 e8 => by injection e8 with e8; rw [← e8]; exact hg9w.out))
                    have hCa := Lib.hid (rows_at (hCo.out.grownB hB2.out (by decide) hg2.out))
                    have hCd : Hid (∀ b ∈ C6, BsAt ((((((w9.setCell ⟨g9, 0, none⟩ (Value.int .i64 l3.now)).setCell ⟨g9, 1, none⟩ (Value.int .i64 l3.delay)).setCell ⟨g9, 2, none⟩ (Value.bool l3.cut)).setCell ⟨g9, 3, none⟩ (Value.int .i64 l3.count)).setCell ⟨g9, 4, none⟩ (Value.slice l3.lA l3.ln l3.lc)).setCell ⟨g9, 5, none⟩ (Value.slice l3.bA l3.bn l3.bc)) b) := fun b hx => bs_of_own ((hCdo.out b hx).grownB hB2.out (by decide) hg2.out)
                    obtain ⟨m0, m1, m2, m3, m4, m5⟩ := (show ((((((w9.setCell ⟨g9, 0, none⟩ (Value.int .i64 l3.now)).setCell ⟨g9, 1, none⟩ (Value.int .i64 l3.delay)).setCell ⟨g9, 2, none⟩ (Value.bool l3.cut)).setCell ⟨g9, 3, none⟩ (Value.int .i64 l3.count)).setCell ⟨g9, 4, none⟩ (Value.slice l3.lA l3.ln l3.lc)).setCell ⟨g9, 5, none⟩ (Value.slice l3.bA l3.bn l3.bc)).cell? ⟨g7, 0, none⟩ = some (Value.int .i64 l2.now) ∧ ((((((w9.setCell ⟨g9, 0, none⟩ (Value.int .i64 l3.now)).setCell ⟨g9, 1, none⟩ (Value.int .i64 l3.delay)).setCell ⟨g9, 2, none⟩ (Value.bool l3.cut)).setCell ⟨g9, 3, none⟩ (Value.int .i64 l3.count)).setCell ⟨g9, 4, none⟩ (Value.slice l3.lA l3.ln l3.lc)).setCell ⟨g9, 5, none⟩ (Value.slice l3.bA l3.bn l3.bc)).cell? ⟨g7, 1, none⟩ = some (Value.int .i64 l2.delay) ∧ ((((((w9.setCell ⟨g9, 0, none⟩ (Value.int .i64 l3.now)).setCell ⟨g9, 1, none⟩ (Value.int .i64 l3.delay)).setCell ⟨g9, 2, none⟩ (Value.bool l3.cut)).setCell ⟨g9, 3, none⟩ (Value.int .i64 l3.count)).setCell ⟨g9, 4, none⟩ (Value.slice l3.lA l3.ln l3.lc)).setCell ⟨g9, 5, none⟩ (Value.slice l3.bA l3.bn l3.bc)).cell? ⟨g7, 2, none⟩ = some (Value.bool l2.cut) ∧ ((((((w9.setCell ⟨g9, 0, none⟩ (Value.int .i64 l3.now)).setCell ⟨g9, 1, none⟩ (Value.int .i64 l3.delay)).setCell ⟨g9, 2, none⟩ (Value.bool l3.cut)).setCell ⟨g9, 3, none⟩ (Value.int .i64 l3.count)).setCell ⟨g9, 4, none⟩ (Value.slice l3.lA l3.ln l3.lc)).setCell ⟨g9, 5, none⟩ (Value.slice l3.bA l3.bn l3.bc)).cell? ⟨g7, 3, none⟩ = some (Value.int .i64 l2.count) ∧ ((((((w9.setCell ⟨g9, 0, none⟩ (Value.int .i64 l3.now)).setCell ⟨g9, 1, none⟩ (Value.int .i64 l3.delay)).setCell ⟨g9, 2, none⟩ (Value.bool l3.cut)).setCell ⟨g9, 3, none⟩ (Value.int .i64 l3.count)).setCell ⟨g9, 4, none⟩ (Value.slice l3.lA l3.ln l3.lc)).setCell ⟨g9, 5, none⟩ (Value.slice l3.bA l3.bn l3.bc)).cell? ⟨g7, 4, none⟩ = some (Value.slice l2.lA l2.ln l2.lc) ∧ ((((((w9.setCell ⟨g9, 0, none⟩ (Value.int .i64 l3.now)).setCell ⟨g9, 1, none⟩ (Value.int .i64 l3.delay)).setCell ⟨g9, 2, none⟩ (Value.bool l3.cut)).setCell ⟨g9, 3, none⟩ (Value.int .i64 l3.count)).setCell ⟨g9, 4, none⟩ (Value.slice l3.lA l3.ln l3.lc)).setCell ⟨g9, 5, none⟩ (Value.slice l3.bA l3.bn l3.bc)).cell? ⟨g7, 5, none⟩ = some (Value.slice l2.bA l2.bn l2.bc) from ⟨hA.out.cell 0, hA.out.cell 1, hA.out.cell 2, hA.out.cell 3, hA.out.cell 4, hA.out.cell 5⟩)
                    obtain ⟨n0, n1, n2, n3, n4, n5⟩ := (show ((((((w9.setCell ⟨g9, 0, none⟩ (Value.int .i64 l3.now)).setCell ⟨g9, 1, none⟩ (Value.int .i64 l3.delay)).setCell ⟨g9, 2, none⟩ (Value.bool l3.cut)).setCell ⟨g9, 3, none⟩ (Value.int .i64 l3.count)).setCell ⟨g9, 4, none⟩ (Value.slice l3.lA l3.ln l3.lc)).setCell ⟨g9, 5, none⟩ (Value.slice l3.bA l3.bn l3.bc)).cell? ⟨g9, 0, none⟩ = some (Value.int .i64 l3.now) ∧ ((((((w9.setCell ⟨g9, 0, none⟩ (Value.int .i64 l3.now)).setCell ⟨g9, 1, none⟩ (Value.int .i64 l3.delay)).setCell ⟨g9, 2, none⟩ (Value.bool l3.cut)).setCell ⟨g9, 3, none⟩ (Value.int .i64 l3.count)).setCell ⟨g9, 4, none⟩ (Value.slice l3.lA l3.ln l3.lc)).setCell ⟨g9, 5, none⟩ (Value.slice l3.bA l3.bn l3.bc)).cell? ⟨g9, 1, none⟩ = some (Value.int .i64 l3.delay) ∧ ((((((w9.setCell ⟨g9, 0, none⟩ (Value.int .i64 l3.now)).setCell ⟨g9, 1, none⟩ (Value.int .i64 l3.delay)).setCell ⟨g9, 2, none⟩ (Value.bool l3.cut)).setCell ⟨g9, 3, none⟩ (Value.int .i64 l3.count)).setCell ⟨g9, 4, none⟩ (Value.slice l3.lA l3.ln l3.lc)).setCell ⟨g9, 5, none⟩ (Value.slice l3.bA l3.bn l3.bc)).cell? ⟨g9, 2, none⟩ = some (Value.bool l3.cut) ∧ ((((((w9.setCell ⟨g9, 0, none⟩ (Value.int .i64 l3.now)).setCell ⟨g9, 1, none⟩ (Value.int .i64 l3.delay)).setCell ⟨g9, 2, none⟩ (Value.bool l3.cut)).setCell ⟨g9, 3, none⟩ (Value.int .i64 l3.count)).setCell ⟨g9, 4, none⟩ (Value.slice l3.lA l3.ln l3.lc)).setCell ⟨g9, 5, none⟩ (Value.slice l3.bA l3.bn l3.bc)).cell? ⟨g9, 3, none⟩ = some (Value.int .i64 l3.count) ∧ ((((((w9.setCell ⟨g9, 0, none⟩ (Value.int .i64 l3.now)).setCell ⟨g9, 1, none⟩ (Value.int .i64 l3.delay)).setCell ⟨g9, 2, none⟩ (Value.bool l3.cut)).setCell ⟨g9, 3, none⟩ (Value.int .i64 l3.count)).setCell ⟨g9, 4, none⟩ (Value.slice l3.lA l3.ln l3.lc)).setCell ⟨g9, 5, none⟩ (Value.slice l3.bA l3.bn l3.bc)).cell? ⟨g9, 4, none⟩ = some (Value.slice l3.lA l3.ln l3.lc) ∧ ((((((w9.setCell ⟨g9, 0, none⟩ (Value.int .i64 l3.now)).setCell ⟨g9, 1, none⟩ (Value.int .i64 l3.delay)).setCell ⟨g9, 2, none⟩ (Value.bool l3.cut)).setCell ⟨g9, 3, none⟩ (Value.int .i64 l3.count)).setCell ⟨g9, 4, none⟩ (Value.slice l3.lA l3.ln l3.lc)).setCell ⟨g9, 5, none⟩ (Value.slice l3.bA l3.bn l3.bc)).cell? ⟨g9, 5, none⟩ = some (Value.slice l3.bA l3.bn l3.bc) from ⟨hB.out.cell 0, hB.out.cell 1, hB.out.cell 2, hB.out.cell 3, hB.out.cell 4, hB.out.cell 5⟩)
                    clear hA2 hB2 hb2 hCo hCdo hg2
                    go_wp2_with fail
                    clear b0 b1 b2 b3 b4 b5 z0 z1 z2 z3 z4 z5 m0 m1 m2 m3 m4 m5 n0 n1 n2 n3 n4 n5
                    generalize ((((((w9.setCell ⟨g9, 0, none⟩ (Value.int .i64 l3.now)).setCell ⟨g9, 1, none⟩ (Value.int .i64 l3.delay)).setCell ⟨g9, 2, none⟩ (Value.bool l3.cut)).setCell ⟨g9, 3, none⟩ (Value.int .i64 l3.count)).setCell ⟨g9, 4, none⟩ (Value.slice l3.lA l3.ln l3.lc)).setCell ⟨g9, 5, none⟩ (Value.slice l3.bA l3.bn l3.bc)) = wf at *
                    have hsm2 : Hid (l2.lose.length ≤ 1000 ∧ l2.box.length ≤ 1000) := by
                      have := sm_of (l := l2) (by rw [hv2.out]; exact hgp.out.sm)
                      exact ⟨this.1, this.2.1⟩
                    refine (same_any l2 l3 wf hok2.out hok3.out (hv2.out.trans hv3.out.symm) hsm2.out.1 hsm2.out.2).mono ?_; rintro e wg ⟨rfl, hq⟩
                    have hA := Lib.hid (hA.out.below hq hA.out.lt)
                    have hB := Lib.hid (hB.out.below hq hB.out.lt)
                    have hok2 := Lib.hid (hok2.out.more hq)
                    have hok3 := Lib.hid (hok3.out.more hq)
                    have hb := Lib.hid (hb.out.trans (hq.mono hb.out.size))
                    have hCa := Lib.hid (hCa.out.more hq)
                    have hCd : Hid (∀ b ∈ C6, BsAt wg b) := fun b hx => (hCd.out b hx).more hq
                    skip
                    clear hq
                    have hsd := Lib.hid (sameData_any A6 none n6 c6 0 0 C6 [] wg hCa.out (LAt.nil sC_len _ _) hCd.out (fun b hx => by simp at hx) (hCm.out.trans (by rw [hrC.out]; rfl)) (by
                      have e1 := hCa.out.len
                      have e2 := congrArg List.length hCm.out
                      have e3 := hfew.out
                      rw [List.length_map] at e2
                      omega))
                    go_wp2_with fail
                    refine hsd.out.mono ?_; rintro e wh ⟨rfl, rfl⟩
                    clear hsd
                    obtain ⟨a0, a1, a2, a3, a4, a5⟩ := (show wh.cell? ⟨g7, 0, none⟩ = some (Value.int .i64 l2.now) ∧ wh.cell? ⟨g7, 1, none⟩ = some (Value.int .i64 l2.delay) ∧ wh.cell? ⟨g7, 2, none⟩ = some (Value.bool l2.cut) ∧ wh.cell? ⟨g7, 3, none⟩ = some (Value.int .i64 l2.count) ∧ wh.cell? ⟨g7, 4, none⟩ = some (Value.slice l2.lA l2.ln l2.lc) ∧ wh.cell? ⟨g7, 5, none⟩ = some (Value.slice l2.bA l2.bn l2.bc) from ⟨hA.out.cell 0, hA.out.cell 1, hA.out.cell 2, hA.out.cell 3, hA.out.cell 4, hA.out.cell 5⟩)
                    have hva := valid_any l2 wh hok2.out hsm2.out.1 hsm2.out.2
                    rw [hv2.out, valid_of _ hgp.out] at hva
                    simp only [lkV] at hva
                    replace hva := Lib.hid hva
                    go_wp2_with fail
                    refine hva.out.mono ?_; rintro e wi ⟨rfl, hq⟩
                    clear a0 a1 a2 a3 a4 a5 hva
                    have hA := Lib.hid (hA.out.below hq hA.out.lt)
                    have hB := Lib.hid (hB.out.below hq hB.out.lt)
                    have hok2 := Lib.hid (hok2.out.more hq)
                    have hok3 := Lib.hid (hok3.out.more hq)
                    have hb := Lib.hid (hb.out.trans (hq.mono hb.out.size))
                    go_wp2_with fail
                    go_roundw
                    case rel => exact ⟨k + 1, l2, l3, by omega, by go_num, hA.out, hB.out, hok2.out, hok3.out, hv2.out.trans hv3.out.symm, by show Good _; rw [hv2.out]; exact hgp.out, hq2.out, hq3.out, hb.out⟩
                    case measure => simp [intOf]; omega
                · have q4d : (kd == 4) = false := by simpa using q4
                  have hrX : r = (lb.val, [], 0) := by rw [hr.out, ← hve.out]; unfold playL; rw [if_neg q1, if_neg q2, if_neg q3, if_neg q4]
                  have e8 : r.2.2 = 0 := by rw [hrX]
                  have hrV : Hid (r.1 = lb.val) := by show _ = _; rw [hrX]
                  have hrC : Hid (r.2.1 = []) := by show _ = _; rw [hrX]
                  clear hrX
                  rw [e8]
                  replace e8 := Lib.hid e8
                  obtain ⟨n0, n1, n2, n3, n4, n5⟩ := (show ((((((w8.setCell ⟨g7, 0, none⟩ (Value.int .i64 l2.now)).setCell ⟨g7, 1, none⟩ (Value.int .i64 l2.delay)).setCell ⟨g7, 2, none⟩ (Value.bool l2.cut)).setCell ⟨g7, 3, none⟩ (Value.int .i64 l2.count)).setCell ⟨g7, 4, none⟩ (Value.slice l2.lA l2.ln l2.lc)).setCell ⟨g7, 5, none⟩ (Value.slice l2.bA l2.bn l2.bc)).cell? ⟨g9, 0, none⟩ = some (Value.int .i64 lb.now) ∧ ((((((w8.setCell ⟨g7, 0, none⟩ (Value.int .i64 l2.now)).setCell ⟨g7, 1, none⟩ (Value.int .i64 l2.delay)).setCell ⟨g7, 2, none⟩ (Value.bool l2.cut)).setCell ⟨g7, 3, none⟩ (Value.int .i64 l2.count)).setCell ⟨g7, 4, none⟩ (Value.slice l2.lA l2.ln l2.lc)).setCell ⟨g7, 5, none⟩ (Value.slice l2.bA l2.bn l2.bc)).cell? ⟨g9, 1, none⟩ = some (Value.int .i64 lb.delay) ∧ ((((((w8.setCell ⟨g7, 0, none⟩ (Value.int .i64 l2.now)).setCell ⟨g7, 1, none⟩ (Value.int .i64 l2.delay)).setCell ⟨g7, 2, none⟩ (Value.bool l2.cut)).setCell ⟨g7, 3, none⟩ (Value.int .i64 l2.count)).setCell ⟨g7, 4, none⟩ (Value.slice l2.lA l2.ln l2.lc)).setCell ⟨g7, 5, none⟩ (Value.slice l2.bA l2.bn l2.bc)).cell? ⟨g9, 2, none⟩ = some (Value.bool lb.cut) ∧ ((((((w8.setCell ⟨g7, 0, none⟩ (Value.int .i64 l2.now)).setCell ⟨g7, 1, none⟩ (Value.int .i64 l2.delay)).setCell ⟨g7, 2, none⟩ (Value.bool l2.cut)).setCell ⟨g7, 3, none⟩ (Value.int .i64 l2.count)).setCell ⟨g7, 4, none⟩ (Value.slice l2.lA l2.ln l2.lc)).setCell ⟨g7, 5, none⟩ (Value.slice l2.bA l2.bn l2.bc)).cell? ⟨g9, 3, none⟩ = some (Value.int .i64 lb.count) ∧ ((((((w8.setCell ⟨g7, 0, none⟩ (Value.int .i64 l2.now)).setCell ⟨g7, 1, none⟩ (Value.int .i64 l2.delay)).setCell ⟨g7, 2, none⟩ (Value.bool l2.cut)).setCell ⟨g7, 3, none⟩ (Value.int .i64 l2.count)).setCell ⟨g7, 4, none⟩ (Value.slice l2.lA l2.ln l2.lc)).setCell ⟨g7, 5, none⟩ (Value.slice l2.bA l2.bn l2.bc)).cell? ⟨g9, 4, none⟩ = some (Value.slice lb.lA lb.ln lb.lc) ∧ ((((((w8.setCell ⟨g7, 0, none⟩ (Value.int .i64 l2.now)).setCell ⟨g7, 1, none⟩ (Value.int .i64 l2.delay)).setCell ⟨g7, 2, none⟩ (Value.bool l2.cut)).setCell ⟨g7, 3, none⟩ (Value.int .i64 l2.count)).setCell ⟨g7, 4, none⟩ (Value.slice l2.lA l2.ln l2.lc)).setCell ⟨g7, 5, none⟩ (Value.slice l2.bA l2.bn l2.bc)).cell? ⟨g9, 5, none⟩ = some (Value.slice lb.bA lb.bn lb.bc) from ⟨hB.out.cell 0, hB.out.cell 1, hB.out.cell 2, hB.out.cell 3, hB.out.cell 4, hB.out.cell 5⟩)
                  obtain ⟨m0, m1, m2, m3, m4, m5⟩ := (show ((((((w8.setCell ⟨g7, 0, none⟩ (Value.int .i64 l2.now)).setCell ⟨g7, 1, none⟩ (Value.int .i64 l2.delay)).setCell ⟨g7, 2, none⟩ (Value.bool l2.cut)).setCell ⟨g7, 3, none⟩ (Value.int .i64 l2.count)).setCell ⟨g7, 4, none⟩ (Value.slice l2.lA l2.ln l2.lc)).setCell ⟨g7, 5, none⟩ (Value.slice l2.bA l2.bn l2.bc)).cell? ⟨g7, 0, none⟩ = some (Value.int .i64 l2.now) ∧ ((((((w8.setCell ⟨g7, 0, none⟩ (Value.int .i64 l2.now)).setCell ⟨g7, 1, none⟩ (Value.int .i64 l2.delay)).setCell ⟨g7, 2, none⟩ (Value.bool l2.cut)).setCell ⟨g7, 3, none⟩ (Value.int .i64 l2.count)).setCell ⟨g7, 4, none⟩ (Value.slice l2.lA l2.ln l2.lc)).setCell ⟨g7, 5, none⟩ (Value.slice l2.bA l2.bn l2.bc)).cell? ⟨g7, 1, none⟩ = some (Value.int .i64 l2.delay) ∧ ((((((w8.setCell ⟨g7, 0, none⟩ (Value.int .i64 l2.now)).setCell ⟨g7, 1, none⟩ (Value.int .i64 l2.delay)).setCell ⟨g7, 2, none⟩ (Value.bool l2.cut)).setCell ⟨g7, 3, none⟩ (Value.int .i64 l2.count)).setCell ⟨g7, 4, none⟩ (Value.slice l2.lA l2.ln l2.lc)).setCell ⟨g7, 5, none⟩ (Value.slice l2.bA l2.bn l2.bc)).cell? ⟨g7, 2, none⟩ = some (Value.bool l2.cut) ∧ ((((((w8.setCell ⟨g7, 0, none⟩ (Value.int .i64 l2.now)).setCell ⟨g7, 1, none⟩ (Value.int .i64 l2.delay)).setCell ⟨g7, 2, none⟩ (Value.bool l2.cut)).setCell ⟨g7, 3, none⟩ (Value.int .i64 l2.count)).setCell ⟨g7, 4, none⟩ (Value.slice l2.lA l2.ln l2.lc)).setCell ⟨g7, 5, none⟩ (Value.slice l2.bA l2.bn l2.bc)).cell? ⟨g7, 3, none⟩ = some (Value.int .i64 l2.count) ∧ ((((((w8.setCell ⟨g7, 0, none⟩ (Value.int .i64 l2.now)).setCell ⟨g7, 1, none⟩ (Value.int .i64 l2.delay)).setCell ⟨g7, 2, none⟩ (Value.bool l2.cut)).setCell ⟨g7, 3, none⟩ (Value.int .i64 l2.count)).setCell ⟨g7, 4, none⟩ (Value.slice l2.lA l2.ln l2.lc)).setCell ⟨g7, 5, none⟩ (Value.slice l2.bA l2.bn l2.bc)).cell? ⟨g7, 4, none⟩ = some (Value.slice l2.lA l2.ln l2.lc) ∧ ((((((w8.setCell ⟨g7, 0, none⟩ (Value.int .i64 l2.now)).setCell ⟨g7, 1, none⟩ (Value.int .i64 l2.delay)).setCell ⟨g7, 2, none⟩ (Value.bool l2.cut)).setCell ⟨g7, 3, none⟩ (Value.int .i64 l2.count)).setCell ⟨g7, 4, none⟩ (Value.slice l2.lA l2.ln l2.lc)).setCell ⟨g7, 5, none⟩ (Value.slice l2.bA l2.bn l2.bc)).cell? ⟨g7, 5, none⟩ = some (Value.slice l2.bA l2.bn l2.bc) from ⟨hA.out.cell 0, hA.out.cell 1, hA.out.cell 2, hA.out.cell 3, hA.out.cell 4, hA.out.cell 5⟩)
                  go_wp2_with fail
                  clear o0 o1
                  clear n0 n1 n2 n3 n4 n5 m0 m1 m2 m3 m4 m5
                  generalize ((((((w8.setCell ⟨g7, 0, none⟩ (Value.int .i64 l2.now)).setCell ⟨g7, 1, none⟩ (Value.int .i64 l2.delay)).setCell ⟨g7, 2, none⟩ (Value.bool l2.cut)).setCell ⟨g7, 3, none⟩ (Value.int .i64 l2.count)).setCell ⟨g7, 4, none⟩ (Value.slice l2.lA l2.ln l2.lc)).setCell ⟨g7, 5, none⟩ (Value.slice l2.bA l2.bn l2.bc)) = wf at *
                  obtain ⟨l3, hl3⟩ : ∃ l3, l3 = lb := ⟨_, rfl⟩
                  rw [← hl3] at hB hokb hqb hrV ⊢
                  have hok3 := hokb
                  have hq3 := hqb
                  have hv3 : Hid (l3.val = r.1) := hrV.out.symm
                  have hCa := Lib.hid (rows_at hCo.out)
                  have hCd : Hid (∀ b ∈ C6, BsAt wf b) := fun b hx => bs_of_own (hCdo.out b hx)
                  have hsm2 : Hid (l2.lose.length ≤ 1000 ∧ l2.box.length ≤ 1000) := by
                    have := sm_of (l := l2) (by rw [hv2.out]; exact hgp.out.sm)
                    exact ⟨this.1, this.2.1⟩
                  refine (same_any l2 l3 wf hok2.out hok3.out (hv2.out.trans hv3.out.symm) hsm2.out.1 hsm2.out.2).mono ?_; rintro e wg ⟨rfl, hq⟩
                  have hA := Lib.hid (hA.out.below hq hA.out.lt)
                  have hB := Lib.hid (hB.out.below hq hB.out.lt)
                  have hok2 := Lib.hid (hok2.out.more hq)
                  have hok3 := Lib.hid (hok3.out.more hq)
                  have hb := Lib.hid (hb.out.trans (hq.mono hb.out.size))
                  have hCa := Lib.hid (hCa.out.more hq)
                  have hCd : Hid (∀ b ∈ C6, BsAt wg b) := fun b hx => (hCd.out b hx).more hq
                  skip
                  clear hq
                  have hsd := Lib.hid (sameData_any A6 none n6 c6 0 0 C6 [] wg hCa.out (LAt.nil sC_len _ _) hCd.out (fun b hx => by simp at hx) (hCm.out.trans (by rw [hrC.out]; rfl)) (by
                    have e1 := hCa.out.len
                    have e2 := congrArg List.length hCm.out
                    have e3 := hfew.out
                    rw [List.length_map] at e2
                    omega))
                  go_wp2_with fail
                  refine hsd.out.mono ?_; rintro e wh ⟨rfl, rfl⟩
                  clear hsd
                  obtain ⟨a0, a1, a2, a3, a4, a5⟩ := (show wh.cell? ⟨g7, 0, none⟩ = some (Value.int .i64 l2.now) ∧ wh.cell? ⟨g7, 1, none⟩ = some (Value.int .i64 l2.delay) ∧ wh.cell? ⟨g7, 2, none⟩ = some (Value.bool l2.cut) ∧ wh.cell? ⟨g7, 3, none⟩ = some (Value.int .i64 l2.count) ∧ wh.cell? ⟨g7, 4, none⟩ = some (Value.slice l2.lA l2.ln l2.lc) ∧ wh.cell? ⟨g7, 5, none⟩ = some (Value.slice l2.bA l2.bn l2.bc) from ⟨hA.out.cell 0, hA.out.cell 1, hA.out.cell 2, hA.out.cell 3, hA.out.cell 4, hA.out.cell 5⟩)
                  have hva := valid_any l2 wh hok2.out hsm2.out.1 hsm2.out.2
                  rw [hv2.out, valid_of _ hgp.out] at hva
                  simp only [lkV] at hva
                  replace hva := Lib.hid hva
                  go_wp2_with fail
                  refine hva.out.mono ?_; rintro e wi ⟨rfl, hq⟩
                  clear a0 a1 a2 a3 a4 a5 hva
                  have hA := Lib.hid (hA.out.below hq hA.out.lt)
                  have hB := Lib.hid (hB.out.below hq hB.out.lt)
                  have hok2 := Lib.hid (hok2.out.more hq)
                  have hok3 := Lib.hid (hok3.out.more hq)
                  have hb := Lib.hid (hb.out.trans (hq.mono hb.out.size))
                  go_wp2_with fail
                  go_roundw
                  case rel => exact ⟨k + 1, l2, l3, by omega, by go_num, hA.out, hB.out, hok2.out, hok3.out, hv2.out.trans hv3.out.symm, by show Good _; rw [hv2.out]; exact hgp.out, hq2.out, hq3.out, hb.out⟩
                  case measure => simp [intOf]; omega
      · go_wp2_with fail
        refine (ex_any _).mono ?_; rintro e w5 ⟨rfl, hq⟩
        go_wp2_with fail
        go_ret
        exact ⟨rfl, hb.out.trans (hq.mono hb.out.size)⟩
end Go.Proofs.Yteolglmdfjddlaa
