/- Invoices: items, invoices and books in memory. -/
import Derived.Test.YtbngclibfnnejaaDoorEl
import Derived.Test.YtbngclibfnnejaaDoorOwn
import Derived.Test.YtbngclibfnnejaaDoorRG
import Derived.Test.YtbngclibfnnejaaDoorRA
import Derived.Test.YtbngclibfnnejaaDoorRM
import Derived.Test.YtbngclibfnnejaaDoorRN
import Derived.Test.YtbngclibfnnejaaDoorMa
import Derived.Maps.OwnOps
import Derived.Lib.SliceRun
set_option linter.unusedVariables false
set_option linter.unusedSimpArgs false
namespace Go.Proofs.YtbngclibfnnejaaDoor
open Go.RowKit
theorem cells4 {t : TypeId} (w : World) (g : Nat) (v0 v1 v2 v3 : Value) (h : Blk w g t #[v0, v1, v2, v3]) : w.cell? ⟨g, 0, none⟩ = some v0 ∧ w.cell? ⟨g, 1, none⟩ = some v1 ∧ w.cell? ⟨g, 2, none⟩ = some v2 ∧ w.cell? ⟨g, 3, none⟩ = some v3 := ⟨h.cell 0, h.cell 1, h.cell 2, h.cell 3⟩
theorem cells4z {t : TypeId} (w : World) (g : Nat) (v0 v1 v2 v3 : Value) (h : Blk w g t #[v0, v1, v2, v3]) : w.cell? ⟨g, 0, none⟩ = some v0 ∧ w.cell? ⟨g, 1, none⟩ = some v1 ∧ w.cell? ⟨g, 2, none⟩ = some v2 ∧ w.cell? ⟨g, 3, none⟩ = some v3 ∧ w.frozen? ⟨g, 0, none⟩ = false ∧ w.frozen? ⟨g, 1, none⟩ = false ∧ w.frozen? ⟨g, 2, none⟩ = false ∧ w.frozen? ⟨g, 3, none⟩ = false := ⟨h.cell 0, h.cell 1, h.cell 2, h.cell 3, h.frozen 0, h.frozen 1, h.frozen 2, h.frozen 3⟩
theorem cells7 {t : TypeId} (w : World) (g : Nat) (v0 v1 v2 v3 v4 v5 v6 : Value) (h : Blk w g t #[v0, v1, v2, v3, v4, v5, v6]) : w.cell? ⟨g, 0, none⟩ = some v0 ∧ w.cell? ⟨g, 1, none⟩ = some v1 ∧ w.cell? ⟨g, 2, none⟩ = some v2 ∧ w.cell? ⟨g, 3, none⟩ = some v3 ∧ w.cell? ⟨g, 4, none⟩ = some v4 ∧ w.cell? ⟨g, 5, none⟩ = some v5 ∧ w.cell? ⟨g, 6, none⟩ = some v6 := ⟨h.cell 0, h.cell 1, h.cell 2, h.cell 3, h.cell 4, h.cell 5, h.cell 6⟩
theorem cells7z {t : TypeId} (w : World) (g : Nat) (v0 v1 v2 v3 v4 v5 v6 : Value) (h : Blk w g t #[v0, v1, v2, v3, v4, v5, v6]) : w.cell? ⟨g, 0, none⟩ = some v0 ∧ w.cell? ⟨g, 1, none⟩ = some v1 ∧ w.cell? ⟨g, 2, none⟩ = some v2 ∧ w.cell? ⟨g, 3, none⟩ = some v3 ∧ w.cell? ⟨g, 4, none⟩ = some v4 ∧ w.cell? ⟨g, 5, none⟩ = some v5 ∧ w.cell? ⟨g, 6, none⟩ = some v6 ∧ w.frozen? ⟨g, 0, none⟩ = false ∧ w.frozen? ⟨g, 1, none⟩ = false ∧ w.frozen? ⟨g, 2, none⟩ = false ∧ w.frozen? ⟨g, 3, none⟩ = false ∧ w.frozen? ⟨g, 4, none⟩ = false ∧ w.frozen? ⟨g, 5, none⟩ = false ∧ w.frozen? ⟨g, 6, none⟩ = false := ⟨h.cell 0, h.cell 1, h.cell 2, h.cell 3, h.cell 4, h.cell 5, h.cell 6, h.frozen 0, h.frozen 1, h.frozen 2, h.frozen 3, h.frozen 4, h.frozen 5, h.frozen 6⟩
theorem cells9 {t : TypeId} (w : World) (g : Nat) (v0 v1 v2 v3 v4 v5 v6 v7 v8 : Value) (h : Blk w g t #[v0, v1, v2, v3, v4, v5, v6, v7, v8]) : w.cell? ⟨g, 0, none⟩ = some v0 ∧ w.cell? ⟨g, 1, none⟩ = some v1 ∧ w.cell? ⟨g, 2, none⟩ = some v2 ∧ w.cell? ⟨g, 3, none⟩ = some v3 ∧ w.cell? ⟨g, 4, none⟩ = some v4 ∧ w.cell? ⟨g, 5, none⟩ = some v5 ∧ w.cell? ⟨g, 6, none⟩ = some v6 ∧ w.cell? ⟨g, 7, none⟩ = some v7 ∧ w.cell? ⟨g, 8, none⟩ = some v8 := ⟨h.cell 0, h.cell 1, h.cell 2, h.cell 3, h.cell 4, h.cell 5, h.cell 6, h.cell 7, h.cell 8⟩
theorem cells9z {t : TypeId} (w : World) (g : Nat) (v0 v1 v2 v3 v4 v5 v6 v7 v8 : Value) (h : Blk w g t #[v0, v1, v2, v3, v4, v5, v6, v7, v8]) : w.cell? ⟨g, 0, none⟩ = some v0 ∧ w.cell? ⟨g, 1, none⟩ = some v1 ∧ w.cell? ⟨g, 2, none⟩ = some v2 ∧ w.cell? ⟨g, 3, none⟩ = some v3 ∧ w.cell? ⟨g, 4, none⟩ = some v4 ∧ w.cell? ⟨g, 5, none⟩ = some v5 ∧ w.cell? ⟨g, 6, none⟩ = some v6 ∧ w.cell? ⟨g, 7, none⟩ = some v7 ∧ w.cell? ⟨g, 8, none⟩ = some v8 ∧ w.frozen? ⟨g, 0, none⟩ = false ∧ w.frozen? ⟨g, 1, none⟩ = false ∧ w.frozen? ⟨g, 2, none⟩ = false ∧ w.frozen? ⟨g, 3, none⟩ = false ∧ w.frozen? ⟨g, 4, none⟩ = false ∧ w.frozen? ⟨g, 5, none⟩ = false ∧ w.frozen? ⟨g, 6, none⟩ = false ∧ w.frozen? ⟨g, 7, none⟩ = false ∧ w.frozen? ⟨g, 8, none⟩ = false := ⟨h.cell 0, h.cell 1, h.cell 2, h.cell 3, h.cell 4, h.cell 5, h.cell 6, h.cell 7, h.cell 8, h.frozen 0, h.frozen 1, h.frozen 2, h.frozen 3, h.frozen 4, h.frozen 5, h.frozen 6, h.frozen 7, h.frozen 8⟩
def iC (n : Int) : List Value := [.int .i64 n]
theorem iC_len (n : Int) : (iC n).length = 1 := rfl
theorem iC_one (l : List Int) : ∀ u ∈ flat iC l, u.oneCell' = true := by
  intro u hu
  simp only [flat, List.mem_flatMap, iC] at hu
  obtain ⟨s, _, h⟩ := hu
  simp at h
  rw [h]; rfl
theorem int_info : (Tryd.prog.info? 3).map (fun i => (i.zero, i.size, i.bytes)) = some (some (.int .i64 0), 1, 8) := by kernel_rfl
def itC (x : It) : List Value := [.int .i64 x.kind, .int .i64 x.price, .int .i64 x.tax, .int .i64 x.qty, .int .i64 x.net, .int .i64 x.vat, .int .i64 x.gross]
theorem itC_len (x : It) : (itC x).length = 7 := rfl
theorem itC_one (l : List It) : ∀ u ∈ flat itC l, u.oneCell' = true := by
  intro u hu
  simp only [flat, List.mem_flatMap, itC] at hu
  obtain ⟨s, _, h⟩ := hu
  simp at h
  rcases h with rfl | rfl | rfl | rfl | rfl | rfl | rfl <;> rfl
theorem it_info : (Tryd.prog.info? 90).map (fun i => (i.zero, i.size, i.bytes)) = some (some (.agg #[.int .i64 0, .int .i64 0, .int .i64 0, .int .i64 0, .int .i64 0, .int .i64 0, .int .i64 0]), 7, 56) := by kernel_rfl
/-- an invoice of memory -/
structure Im where
  num : Int
  cust : ByteArray
  cur : ByteArray
  at_ : Int
  A : Option Addr
  n : Nat
  c : Nat
  items : List It
  net : Int
  vat : Int
  gross : Int
  credits : Int
def ivC (v : Im) : List Value := [Value.int .i64 v.num, Value.string v.cust, Value.string v.cur, Value.int .i64 v.at_, Value.slice v.A v.n v.c, Value.int .i64 v.net, Value.int .i64 v.vat, Value.int .i64 v.gross, Value.int .i64 v.credits]
theorem ivC_len (v : Im) : (ivC v).length = 9 := rfl
theorem ivC_one (l : List Im) : ∀ u ∈ flat ivC l, u.oneCell' = true := by
  intro u hu
  simp only [flat, List.mem_flatMap, ivC] at hu
  obtain ⟨s, _, h⟩ := hu
  simp at h
  rcases h with rfl | rfl | rfl | rfl | rfl | rfl | rfl | rfl | rfl <;> rfl
theorem iv_info : (Tryd.prog.info? 100).map (fun i => (i.zero, i.size, i.bytes)) = some (some (.agg #[.int .i64 0, .string "".toUTF8, .string "".toUTF8, .int .i64 0, .slice none 0 0, .int .i64 0, .int .i64 0, .int .i64 0, .int .i64 0]), 9, 104) := by kernel_rfl
def itV (x : It) : Value := .agg #[Value.int .i64 x.kind, Value.int .i64 x.price, Value.int .i64 x.tax, Value.int .i64 x.qty, Value.int .i64 x.net, Value.int .i64 x.vat, Value.int .i64 x.gross]
def ivV (v : Im) : Value := .agg #[Value.int .i64 v.num, Value.string v.cust, Value.string v.cur, Value.int .i64 v.at_, Value.slice v.A v.n v.c, Value.int .i64 v.net, Value.int .i64 v.vat, Value.int .i64 v.gross, Value.int .i64 v.credits]
def Im.val (v : Im) : Iv := ⟨v.num, v.cust, v.cur, v.at_, v.items, v.net, v.vat, v.gross, v.credits⟩
theorem it_cells {w : World} {B n k : Nat} {A : Option Addr} {L : List It} (h : LAt itC 7 w B A n L) (hk : k < n) :
    ∃ ad, A = some ad ∧ ad.block < B ∧ w.cell? (ad.add (k * 7)) = some (Value.int .i64 (L[k]'(by rw [h.len]; exact hk)).kind) ∧ w.cell? ⟨(ad.add (k * 7)).block, (ad.add (k * 7)).off + 1, none⟩ = some (Value.int .i64 (L[k]'(by rw [h.len]; exact hk)).price) ∧ w.cell? ⟨(ad.add (k * 7)).block, (ad.add (k * 7)).off + 2, none⟩ = some (Value.int .i64 (L[k]'(by rw [h.len]; exact hk)).tax) ∧ w.cell? ⟨(ad.add (k * 7)).block, (ad.add (k * 7)).off + 3, none⟩ = some (Value.int .i64 (L[k]'(by rw [h.len]; exact hk)).qty) ∧ w.cell? ⟨(ad.add (k * 7)).block, (ad.add (k * 7)).off + 4, none⟩ = some (Value.int .i64 (L[k]'(by rw [h.len]; exact hk)).net) ∧ w.cell? ⟨(ad.add (k * 7)).block, (ad.add (k * 7)).off + 5, none⟩ = some (Value.int .i64 (L[k]'(by rw [h.len]; exact hk)).vat) ∧ w.cell? ⟨(ad.add (k * 7)).block, (ad.add (k * 7)).off + 6, none⟩ = some (Value.int .i64 (L[k]'(by rw [h.len]; exact hk)).gross) := by
  obtain ⟨ad, rfl, hb, hc⟩ := h.at_ hk
  have g := fun j u hj => (add_next ad (k * 7) j) ▸ hc (j + 1) u hj
  exact ⟨ad, rfl, hb, hc 0 _ rfl, g 0 _ rfl, g 1 _ rfl, g 2 _ rfl, g 3 _ rfl, g 4 _ rfl, g 5 _ rfl⟩
theorem iv_cells {w : World} {B n k : Nat} {A : Option Addr} {L : List Im} (h : LAt ivC 9 w B A n L) (hk : k < n) :
    ∃ ad, A = some ad ∧ ad.block < B ∧ w.cell? (ad.add (k * 9)) = some (Value.int .i64 (L[k]'(by rw [h.len]; exact hk)).num) ∧ w.cell? ⟨(ad.add (k * 9)).block, (ad.add (k * 9)).off + 1, none⟩ = some (Value.string (L[k]'(by rw [h.len]; exact hk)).cust) ∧ w.cell? ⟨(ad.add (k * 9)).block, (ad.add (k * 9)).off + 2, none⟩ = some (Value.string (L[k]'(by rw [h.len]; exact hk)).cur) ∧ w.cell? ⟨(ad.add (k * 9)).block, (ad.add (k * 9)).off + 3, none⟩ = some (Value.int .i64 (L[k]'(by rw [h.len]; exact hk)).at_) ∧ w.cell? ⟨(ad.add (k * 9)).block, (ad.add (k * 9)).off + 4, none⟩ = some (Value.slice (L[k]'(by rw [h.len]; exact hk)).A (L[k]'(by rw [h.len]; exact hk)).n (L[k]'(by rw [h.len]; exact hk)).c) ∧ w.cell? ⟨(ad.add (k * 9)).block, (ad.add (k * 9)).off + 5, none⟩ = some (Value.int .i64 (L[k]'(by rw [h.len]; exact hk)).net) ∧ w.cell? ⟨(ad.add (k * 9)).block, (ad.add (k * 9)).off + 6, none⟩ = some (Value.int .i64 (L[k]'(by rw [h.len]; exact hk)).vat) ∧ w.cell? ⟨(ad.add (k * 9)).block, (ad.add (k * 9)).off + 7, none⟩ = some (Value.int .i64 (L[k]'(by rw [h.len]; exact hk)).gross) ∧ w.cell? ⟨(ad.add (k * 9)).block, (ad.add (k * 9)).off + 8, none⟩ = some (Value.int .i64 (L[k]'(by rw [h.len]; exact hk)).credits) := by
  obtain ⟨ad, rfl, hb, hc⟩ := h.at_ hk
  have g := fun j u hj => (add_next ad (k * 9) j) ▸ hc (j + 1) u hj
  exact ⟨ad, rfl, hb, hc 0 _ rfl, g 0 _ rfl, g 1 _ rfl, g 2 _ rfl, g 3 _ rfl, g 4 _ rfl, g 5 _ rfl, g 6 _ rfl, g 7 _ rfl⟩
abbrev ItAt (w : World) (A : Option Addr) (n : Nat) (l : List It) : Prop := LAt itC 7 w w.heap.size A n l
/-- an invoice's items are there -/
def ImAt (w : World) (v : Im) : Prop := ItAt w v.A v.n v.items ∧ v.n ≤ v.c ∧ v.c ≤ maxLen
theorem ImAt.more {w w' : World} {v : Im} (h : ImAt w v) (hb : Below w.heap.size w w') : ImAt w' v := ⟨LAt.more h.1 hb, h.2⟩
/-- a book -/
structure BkAt (w : World) (A : Option Addr) (n c : Nat) (L : List Im) : Prop where
  row : LAt ivC 9 w w.heap.size A n L
  cap : n ≤ c ∧ c ≤ maxLen
  its : ∀ v ∈ L, ImAt w v
theorem BkAt.more {w w' : World} {A : Option Addr} {n c : Nat} {L : List Im} (h : BkAt w A n c L) (hb : Below w.heap.size w w') : BkAt w' A n c L := ⟨h.row.more hb, h.cap, fun v hv => (h.its v hv).more hb⟩
theorem BkAt.len {w : World} {A : Option Addr} {n c : Nat} {L : List Im} (h : BkAt w A n c L) : L.length = n := h.row.len
theorem BkAt.nil (w : World) : BkAt w none 0 0 [] := ⟨LAt.nil ivC_len _ _, ⟨Nat.le_refl _, Nat.zero_le _⟩, fun v h => by simp at h⟩
theorem BkAt.drewN {w : World} {A : Option Addr} {n c : Nat} {L : List Im} (h : BkAt w A n c L) (k : Nat) : BkAt (w.drewN k) A n c L := h.more (below_drewN (Below.refl _ _) k)
end Go.Proofs.YtbngclibfnnejaaDoor
