/- Replicated servers: entries, servers and clusters in memory; Clone, walked. -/
import Derived.Test.YtiapeenfggjpnaaEl
import Derived.Test.YtiapeenfggjpnaaOwn
import Derived.Test.YtiapeenfggjpnaaRG
import Derived.Test.YtiapeenfggjpnaaRA
import Derived.Test.YtiapeenfggjpnaaRM
import Derived.Test.YtiapeenfggjpnaaRN
import Derived.Test.YtiapeenfggjpnaaMa
import Derived.Maps.OwnOps
import Derived.Lib.SliceRun
set_option linter.unusedVariables false
set_option linter.unusedSimpArgs false
namespace Go.Proofs.Ytiapeenfggjpnaa
open Go.RowKit
theorem cells2 {t : TypeId} (w : World) (g : Nat) (v0 v1 : Value) (h : Blk w g t #[v0, v1]) : w.cell? ⟨g, 0, none⟩ = some v0 ∧ w.cell? ⟨g, 1, none⟩ = some v1 := ⟨h.cell 0, h.cell 1⟩
theorem cells2z {t : TypeId} (w : World) (g : Nat) (v0 v1 : Value) (h : Blk w g t #[v0, v1]) : w.cell? ⟨g, 0, none⟩ = some v0 ∧ w.cell? ⟨g, 1, none⟩ = some v1 ∧ w.frozen? ⟨g, 0, none⟩ = false ∧ w.frozen? ⟨g, 1, none⟩ = false := ⟨h.cell 0, h.cell 1, h.frozen 0, h.frozen 1⟩
theorem cells3 {t : TypeId} (w : World) (g : Nat) (v0 v1 v2 : Value) (h : Blk w g t #[v0, v1, v2]) : w.cell? ⟨g, 0, none⟩ = some v0 ∧ w.cell? ⟨g, 1, none⟩ = some v1 ∧ w.cell? ⟨g, 2, none⟩ = some v2 := ⟨h.cell 0, h.cell 1, h.cell 2⟩
theorem cells3z {t : TypeId} (w : World) (g : Nat) (v0 v1 v2 : Value) (h : Blk w g t #[v0, v1, v2]) : w.cell? ⟨g, 0, none⟩ = some v0 ∧ w.cell? ⟨g, 1, none⟩ = some v1 ∧ w.cell? ⟨g, 2, none⟩ = some v2 ∧ w.frozen? ⟨g, 0, none⟩ = false ∧ w.frozen? ⟨g, 1, none⟩ = false ∧ w.frozen? ⟨g, 2, none⟩ = false := ⟨h.cell 0, h.cell 1, h.cell 2, h.frozen 0, h.frozen 1, h.frozen 2⟩
theorem cells4 {t : TypeId} (w : World) (g : Nat) (v0 v1 v2 v3 : Value) (h : Blk w g t #[v0, v1, v2, v3]) : w.cell? ⟨g, 0, none⟩ = some v0 ∧ w.cell? ⟨g, 1, none⟩ = some v1 ∧ w.cell? ⟨g, 2, none⟩ = some v2 ∧ w.cell? ⟨g, 3, none⟩ = some v3 := ⟨h.cell 0, h.cell 1, h.cell 2, h.cell 3⟩
theorem cells4z {t : TypeId} (w : World) (g : Nat) (v0 v1 v2 v3 : Value) (h : Blk w g t #[v0, v1, v2, v3]) : w.cell? ⟨g, 0, none⟩ = some v0 ∧ w.cell? ⟨g, 1, none⟩ = some v1 ∧ w.cell? ⟨g, 2, none⟩ = some v2 ∧ w.cell? ⟨g, 3, none⟩ = some v3 ∧ w.frozen? ⟨g, 0, none⟩ = false ∧ w.frozen? ⟨g, 1, none⟩ = false ∧ w.frozen? ⟨g, 2, none⟩ = false ∧ w.frozen? ⟨g, 3, none⟩ = false := ⟨h.cell 0, h.cell 1, h.cell 2, h.cell 3, h.frozen 0, h.frozen 1, h.frozen 2, h.frozen 3⟩
def bC (b : UInt8) : List Value := [.int .u8 (b.toNat : Int)]
theorem bC_len (b : UInt8) : (bC b).length = 1 := rfl
abbrev BAt (w : World) (B : Nat) (A : Option Addr) (n : Nat) (l : List UInt8) : Prop := LAt bC 1 w B A n l
abbrev BOwn (w : World) (base : Nat) (v : Value) (l : List UInt8) : Prop := LOwn bC 1 5 w base v l
theorem bC_one (l : List UInt8) : ∀ u ∈ flat bC l, u.oneCell' = true := by
  intro u hu
  simp only [flat, List.mem_flatMap, bC] at hu
  obtain ⟨s, _, h⟩ := hu
  simp at h
  rw [h]; rfl
theorem byte_info : (Try.prog.info? 5).map (fun i => (i.zero, i.size, i.bytes)) = some (some (.int .u8 0), 1, 1) := by kernel_rfl
/-- an entry: its view, its data and where they lie -/
structure Em where
  view : Int
  A : Option Addr
  n : Nat
  c : Nat
  d : List UInt8
def enC (e : Em) : List Value := [.int .i64 e.view, .slice e.A e.n e.c]
theorem enC_len (e : Em) : (enC e).length = 2 := rfl
theorem enC_one (l : List Em) : ∀ u ∈ flat enC l, u.oneCell' = true := by
  intro u hu
  simp only [flat, List.mem_flatMap, enC] at hu
  obtain ⟨s, _, h⟩ := hu
  simp at h
  rcases h with rfl | rfl <;> rfl
theorem en_info : (Try.prog.info? 59).map (fun i => (i.zero, i.size, i.bytes)) = some (some (.agg #[.int .i64 0, .slice none 0 0]), 2, 32) := by kernel_rfl
/-- a server -/
structure Sm where
  up : Bool
  view : Int
  A : Option Addr
  n : Nat
  c : Nat
  log : List Em
def svC (s : Sm) : List Value := [.bool s.up, .int .i64 s.view, .slice s.A s.n s.c]
theorem svC_len (s : Sm) : (svC s).length = 3 := rfl
theorem svC_one (l : List Sm) : ∀ u ∈ flat svC l, u.oneCell' = true := by
  intro u hu
  simp only [flat, List.mem_flatMap, svC] at hu
  obtain ⟨s, _, h⟩ := hu
  simp at h
  rcases h with rfl | rfl | rfl <;> rfl
theorem sv_info : (Try.prog.info? 47).map (fun i => (i.zero, i.size, i.bytes)) = some (some (.agg #[.bool false, .int .i64 0, .slice none 0 0]), 3, 40) := by kernel_rfl
/-- a cluster -/
structure Cm where
  primary : Int
  view : Int
  commit : Int
  A : Option Addr
  n : Nat
  c : Nat
  servers : List Sm
def svV (s : Sm) : Value := .agg #[Value.bool s.up, Value.int .i64 s.view, Value.slice s.A s.n s.c]
def clV (c : Cm) : Value := .agg #[Value.int .i64 c.primary, Value.int .i64 c.view, Value.int .i64 c.commit, Value.slice c.A c.n c.c]
def Em.val (e : Em) : En := ⟨e.view, e.d⟩
def Sm.val (s : Sm) : Sv := ⟨s.up, s.view, s.log.map Em.val⟩
def Cm.val (c : Cm) : Cv := ⟨c.primary, c.view, c.commit, c.servers.map Sm.val⟩
theorem en_cells {w : World} {B n k : Nat} {A : Option Addr} {L : List Em} (h : LAt enC 2 w B A n L) (hk : k < n) :
    ∃ ad, A = some ad ∧ ad.block < B ∧ w.cell? (ad.add (k * 2)) = some (Value.int .i64 (L[k]'(by rw [h.len]; exact hk)).view) ∧ w.cell? ⟨(ad.add (k * 2)).block, (ad.add (k * 2)).off + 1, none⟩ = some (Value.slice (L[k]'(by rw [h.len]; exact hk)).A (L[k]'(by rw [h.len]; exact hk)).n (L[k]'(by rw [h.len]; exact hk)).c) := by
  obtain ⟨ad, rfl, hb, hc⟩ := h.at_ hk
  have g := fun j u hj => (add_next ad (k * 2) j) ▸ hc (j + 1) u hj
  exact ⟨ad, rfl, hb, hc 0 _ rfl, g 0 _ rfl⟩
theorem sv_cells {w : World} {B n k : Nat} {A : Option Addr} {L : List Sm} (h : LAt svC 3 w B A n L) (hk : k < n) :
    ∃ ad, A = some ad ∧ ad.block < B ∧ w.cell? (ad.add (k * 3)) = some (Value.bool (L[k]'(by rw [h.len]; exact hk)).up) ∧ w.cell? ⟨(ad.add (k * 3)).block, (ad.add (k * 3)).off + 1, none⟩ = some (Value.int .i64 (L[k]'(by rw [h.len]; exact hk)).view) ∧ w.cell? ⟨(ad.add (k * 3)).block, (ad.add (k * 3)).off + 2, none⟩ = some (Value.slice (L[k]'(by rw [h.len]; exact hk)).A (L[k]'(by rw [h.len]; exact hk)).n (L[k]'(by rw [h.len]; exact hk)).c) := by
  obtain ⟨ad, rfl, hb, hc⟩ := h.at_ hk
  have g := fun j u hj => (add_next ad (k * 3) j) ▸ hc (j + 1) u hj
  exact ⟨ad, rfl, hb, hc 0 _ rfl, g 0 _ rfl, g 1 _ rfl⟩
theorem LAt_grownO {α : Type} {f : α → List Value} {s n : Nat} {w w' : World} {A : Option Addr} {l : List α} {o : Option Nat} (h : LAt f s w w.heap.size A n l) (hne : 0 < n → ∀ ad, A = some ad → some ad.block ≠ o) (hg : w.grownBy w' o) : LAt f s w' w'.heap.size A n l := by
  refine ⟨h.1, h.2.1, fun hn => ?_⟩
  obtain ⟨ad, rfl, hb, hc⟩ := h.2.2 hn
  refine ⟨ad, rfl, Nat.lt_of_lt_of_le hb hg.size, fun j u hu => ?_⟩
  have hbl : (ad.add j).block = ad.block := add_block ad j
  have e := hc j u hu
  unfold World.cell? at e ⊢
  rw [hbl] at e ⊢
  rw [hg.block ad.block hb (hne hn ad rfl)]
  exact e
/-- rows that lie in blocks of Q -/
def InQ (Q : Nat → Prop) (n : Nat) (A : Option Addr) : Prop := 0 < n → ∀ ad, A = some ad → Q ad.block
structure EmAt (w : World) (Q : Nat → Prop) (e : Em) : Prop where
  at_ : BAt w w.heap.size e.A e.n e.d
  cap : e.n ≤ e.c ∧ e.c ≤ maxLen
  q : InQ Q e.n e.A
structure LogAt (w : World) (Q : Nat → Prop) (A : Option Addr) (n c : Nat) (log : List Em) : Prop where
  at_ : LAt enC 2 w w.heap.size A n log
  cap : n ≤ c ∧ c ≤ maxLen
  q : InQ Q n A
  els : ∀ e ∈ log, EmAt w Q e
def SmAt (w : World) (Q : Nat → Prop) (s : Sm) : Prop := LogAt w Q s.A s.n s.c s.log
structure CmAt (w : World) (Q : Nat → Prop) (c : Cm) : Prop where
  at_ : LAt svC 3 w w.heap.size c.A c.n c.servers
  cap : c.n ≤ c.c ∧ c.c ≤ maxLen
  q : InQ Q c.n c.A
  els : ∀ s ∈ c.servers, SmAt w Q s
theorem InQ.imp {Q Q' : Nat → Prop} {n : Nat} {A : Option Addr} (h : InQ Q n A) (hq : ∀ b, Q b → Q' b) : InQ Q' n A := fun h0 ad e => hq _ (h h0 ad e)
theorem InQ.lt {α : Type} {f : α → List Value} {s n B : Nat} {w : World} {A : Option Addr} {l : List α} (h : LAt f s w B A n l) : InQ (fun b => b < B) n A := fun h0 ad e => by
  obtain ⟨ad', rfl, h1, _⟩ := h.at_ h0
  injection e with e
  subst e
  exact h1
theorem InQ.and {Q Q' : Nat → Prop} {n : Nat} {A : Option Addr} (h : InQ Q n A) (h' : InQ Q' n A) : InQ (fun b => Q b ∧ Q' b) n A := fun h0 ad e => ⟨h h0 ad e, h' h0 ad e⟩
section
variable {w w' : World} {Q Q' : Nat → Prop}
theorem EmAt.imp {e : Em} (h : EmAt w Q e) (hq : ∀ b, Q b → Q' b) : EmAt w Q' e := ⟨h.at_, h.cap, h.q.imp hq⟩
theorem EmAt.more {e : Em} (h : EmAt w Q e) (hb : Below w.heap.size w w') : EmAt w' Q e := ⟨h.at_.more hb, h.cap, h.q⟩
theorem EmAt.st {e : Em} {o : Option Nat} (h : EmAt w Q e) (hg : w.grownBy w' o) (hq : ∀ b, Q b → some b ≠ o) : EmAt w' Q e := ⟨LAt_grownO h.at_ (fun h0 ad e => hq _ (h.q h0 ad e)) hg, h.cap, h.q⟩
theorem EmAt.lt {e : Em} (h : EmAt w Q e) : EmAt w (fun b => Q b ∧ b < w.heap.size) e := ⟨h.at_, h.cap, h.q.and (InQ.lt h.at_)⟩
variable {A : Option Addr} {n c : Nat} {log : List Em}
theorem LogAt.imp (h : LogAt w Q A n c log) (hq : ∀ b, Q b → Q' b) : LogAt w Q' A n c log := ⟨h.at_, h.cap, h.q.imp hq, fun e he => (h.els e he).imp hq⟩
theorem LogAt.more (h : LogAt w Q A n c log) (hb : Below w.heap.size w w') : LogAt w' Q A n c log := ⟨h.at_.more hb, h.cap, h.q, fun e he => (h.els e he).more hb⟩
theorem LogAt.st {o : Option Nat} (h : LogAt w Q A n c log) (hg : w.grownBy w' o) (hq : ∀ b, Q b → some b ≠ o) : LogAt w' Q A n c log := ⟨LAt_grownO h.at_ (fun h0 ad e => hq _ (h.q h0 ad e)) hg, h.cap, h.q, fun e he => (h.els e he).st hg hq⟩
theorem LogAt.lt (h : LogAt w Q A n c log) : LogAt w (fun b => Q b ∧ b < w.heap.size) A n c log := ⟨h.at_, h.cap, h.q.and (InQ.lt h.at_), fun e he => (h.els e he).lt⟩
theorem LogAt.nil : LogAt w Q none 0 0 [] := ⟨LAt.nil enC_len _ _, ⟨Nat.le_refl _, Nat.zero_le _⟩, fun h => absurd h (Nat.lt_irrefl 0), fun e he => by cases he⟩
variable {s : Sm}
theorem SmAt.imp (h : SmAt w Q s) (hq : ∀ b, Q b → Q' b) : SmAt w Q' s := LogAt.imp h hq
theorem SmAt.more (h : SmAt w Q s) (hb : Below w.heap.size w w') : SmAt w' Q s := LogAt.more h hb
theorem SmAt.st {o : Option Nat} (h : SmAt w Q s) (hg : w.grownBy w' o) (hq : ∀ b, Q b → some b ≠ o) : SmAt w' Q s := LogAt.st h hg hq
theorem SmAt.lt (h : SmAt w Q s) : SmAt w (fun b => Q b ∧ b < w.heap.size) s := LogAt.lt h
variable {k : Cm}
theorem CmAt.imp (h : CmAt w Q k) (hq : ∀ b, Q b → Q' b) : CmAt w Q' k := ⟨h.at_, h.cap, h.q.imp hq, fun e he => (h.els e he).imp hq⟩
theorem CmAt.more (h : CmAt w Q k) (hb : Below w.heap.size w w') : CmAt w' Q k := ⟨h.at_.more hb, h.cap, h.q, fun e he => (h.els e he).more hb⟩
theorem CmAt.st {o : Option Nat} (h : CmAt w Q k) (hg : w.grownBy w' o) (hq : ∀ b, Q b → some b ≠ o) : CmAt w' Q k := ⟨LAt_grownO h.at_ (fun h0 ad e => hq _ (h.q h0 ad e)) hg, h.cap, h.q, fun e he => (h.els e he).st hg hq⟩
theorem CmAt.lt (h : CmAt w Q k) : CmAt w (fun b => Q b ∧ b < w.heap.size) k := ⟨h.at_, h.cap, h.q.and (InQ.lt h.at_), fun e he => (h.els e he).lt⟩
end
theorem LogAt.len {w : World} {Q : Nat → Prop} {A : Option Addr} {n c : Nat} {log : List Em} (h : LogAt w Q A n c log) : log.length = n := h.at_.len
theorem CmAt.len {w : World} {Q : Nat → Prop} {c : Cm} (h : CmAt w Q c) : c.servers.length = c.n := h.at_.len
set_option maxRecDepth 100000 in
set_option maxHeartbeats 8000000 in
theorem bclone_any (A : Option Addr) (n c : Nat) (l : List UInt8) (w : World) (h : LAt bC 1 w w.heap.size A n l) (hn : n ≤ 100000000) :
    Calls Try.prog 50 #[.slice A n c] w fun e w' => ∃ v, e = .returned v ∧ LOwn bC 1 5 w' w.heap.size v l ∧ Below w.heap.size w w' := by
  obtain ⟨i0, hi0, hz0, hz1, hz2⟩ := info_parts byte_info
  have hl := h.len
  have heq := fun (w : World) => Lib.run_eql_slice_nil (P := Try.prog) w 25 5 A n c 0 0 Try.underlying25
  cases A with
  | none =>
    have h0 : n = 0 := by
      rcases Nat.eq_zero_or_pos n with h0 | h0
      · exact h0
      · obtain ⟨ad, e, _⟩ := h.at_ h0; cases e
    subst h0
    obtain rfl : l = [] := List.eq_nil_of_length_eq_zero hl
    clear hl
    replace h := Lib.hid h
    go_enter Try.func50, Try.ntmps50
    go_wp2_with fail
    go_ret
    exact ⟨_, rfl, LOwn.nil bC_len _ _, Below.refl _ _⟩
  | some ad =>
    replace hl := Lib.hid hl
    have hown : Hid (LOwn bC 1 5 (w.alloc (.cells #[] 5)) w.heap.size (.slice (some ⟨w.heap.size, 0, none⟩) 0 0) []) := lit_own bC_len w [] #[] rfl (Nat.zero_le _)
    have hrd : Hid (Reads (w.alloc (.cells #[] 5)) w.heap.size 1 (some ad) n (flat bC l)) := (h.below (a1 w _) (Nat.le_refl _)).2
    replace h := Lib.hid h
    go_enter Try.func50, Try.ntmps50
    go_wp2_with (at_builtin; refine wpList_append_any _ rfl (.tmp 5) (.tmp 6) _ rfl w.heap.size 5 i0 _ 1 1 Try.underlying25 hi0 hz0 hz1 hz2 rfl (by omega) (.slice (some ⟨w.heap.size, 0, none⟩) 0 0) 0 [] rfl hown.out.2 w.heap.size (some ad) n c (flat bC l) rfl hrd.out (bC_one _) (by simp only [maxLen]; omega) (by omega) (by simp) ?_; intro v' w1 hown1 hg1 hat1)
    go_ret
    refine ⟨_, rfl, ⟨bC_len, ?_⟩, ?_⟩
    · have := hown1
      rw [Nat.zero_add, List.nil_append] at this
      rw [hl.out]; exact this
    · exact (a1 w _).grown hg1 (by simp) (fun k hk => by simp [Value.ownBlock] at hk; omega)
set_option maxRecDepth 100000 in
set_option maxHeartbeats 8000000 in
theorem cloneS_any (A : Option Addr) (n c : Nat) (l : List Sm) (w : World) (h : LAt svC 3 w w.heap.size A n l) (hn : n ≤ 1000000) :
    Calls Try.prog 48 #[.slice A n c] w fun e w' => ∃ v, e = .returned v ∧ LOwn svC 3 47 w' w.heap.size v l ∧ Below w.heap.size w w' := by
  obtain ⟨i0, hi0, hz0, hz1, hz2⟩ := info_parts sv_info
  have hl := h.len
  have heq := fun (w : World) => Lib.run_eql_slice_nil (P := Try.prog) w 22 47 A n c 0 0 Try.underlying22
  cases A with
  | none =>
    have h0 : n = 0 := by
      rcases Nat.eq_zero_or_pos n with h0 | h0
      · exact h0
      · obtain ⟨ad, e, _⟩ := h.at_ h0; cases e
    subst h0
    obtain rfl : l = [] := List.eq_nil_of_length_eq_zero hl
    clear hl
    replace h := Lib.hid h
    go_enter Try.func48, Try.ntmps48
    go_wp2_with fail
    go_ret
    exact ⟨_, rfl, LOwn.nil svC_len _ _, Below.refl _ _⟩
  | some ad =>
    replace hl := Lib.hid hl
    have hown : Hid (LOwn svC 3 47 (w.alloc (.cells #[] 47)) w.heap.size (.slice (some ⟨w.heap.size, 0, none⟩) 0 0) []) := lit_own svC_len w [] #[] rfl (Nat.zero_le _)
    have hrd : Hid (Reads (w.alloc (.cells #[] 47)) w.heap.size 3 (some ad) n (flat svC l)) := (h.below (a1 w _) (Nat.le_refl _)).2
    replace h := Lib.hid h
    go_enter Try.func48, Try.ntmps48
    go_wp2_with (at_builtin; refine wpList_append_any _ rfl (.tmp 5) (.tmp 6) _ rfl w.heap.size 47 i0 _ 3 40 Try.underlying22 hi0 hz0 hz1 hz2 rfl (by omega) (.slice (some ⟨w.heap.size, 0, none⟩) 0 0) 0 [] rfl hown.out.2 w.heap.size (some ad) n c (flat svC l) rfl hrd.out (svC_one _) (by simp only [maxLen]; omega) (by omega) (by simp) ?_; intro v' w1 hown1 hg1 hat1)
    go_ret
    refine ⟨_, rfl, ⟨svC_len, ?_⟩, ?_⟩
    · have := hown1
      rw [Nat.zero_add, List.nil_append] at this
      rw [hl.out]; exact this
    · exact (a1 w _).grown hg1 (by simp) (fun k hk => by simp [Value.ownBlock] at hk; omega)
end Go.Proofs.Ytiapeenfggjpnaa
