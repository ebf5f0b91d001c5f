/- Tokens: how they lie in memory; Status, index, Find of the program and the reference, walked. -/
import Derived.Test.YtiggpgeldigknaaId
set_option linter.unusedVariables false
namespace Go.Proofs.Ytiggpgeldigknaa
open Go.RowKit
structure Tk where
  id : ByteArray
  group : ByteArray
  contract : ByteArray
  kind : Int
  status : Int
  expiry : Int
theorem Tk.ext_ {a b : Tk} (h1 : a.id = b.id) (h2 : a.group = b.group) (h3 : a.contract = b.contract) (h4 : a.kind = b.kind) (h5 : a.status = b.status) (h6 : a.expiry = b.expiry) : a = b := by
  cases a; cases b; simp at *; simp [*]
instance : DecidableEq Tk := fun a b =>
  if h : a.id = b.id ∧ a.group = b.group ∧ a.contract = b.contract ∧ a.kind = b.kind ∧ a.status = b.status ∧ a.expiry = b.expiry then
    .isTrue (Tk.ext_ h.1 h.2.1 h.2.2.1 h.2.2.2.1 h.2.2.2.2.1 h.2.2.2.2.2)
  else .isFalse (by rintro rfl; exact h ⟨rfl, rfl, rfl, rfl, rfl, rfl⟩)
def tkC (t : Tk) : List Value := [.string t.id, .string t.group, .string t.contract, .int .i64 t.kind, .int .i64 t.status, .int .i64 t.expiry]
def tkV (t : Tk) : Value := .agg #[.string t.id, .string t.group, .string t.contract, .int .i64 t.kind, .int .i64 t.status, .int .i64 t.expiry]
def tk0 : Tk := ⟨⟨#[]⟩, ⟨#[]⟩, ⟨#[]⟩, 0, 0, 0⟩
theorem tkC_len (t : Tk) : (tkC t).length = 6 := rfl
/-- the strings of a token are of a size that memory holds -/
def TkOk (t : Tk) : Prop := t.id.size ≤ maxLen ∧ t.group.size ≤ maxLen ∧ t.contract.size ≤ maxLen
abbrev TAt (w : World) (B : Nat) (A : Option Addr) (n : Nat) (l : List Tk) : Prop := LAt tkC 6 w B A n l
theorem TAt.cell {w : World} {B : Nat} {A : Option Addr} {n : Nat} {l : List Tk} (h : TAt w B A n l) {k : Nat} (hk : k < n) : ∃ ad, A = some ad ∧ ad.block < B ∧
    w.cell? (ad.add (k * 6)) = some (.string (l[k]'(by rw [h.len]; exact hk)).id) ∧
    w.cell? ⟨(ad.add (k * 6)).block, (ad.add (k * 6)).off + 1, none⟩ = some (.string (l[k]'(by rw [h.len]; exact hk)).group) ∧
    w.cell? ⟨(ad.add (k * 6)).block, (ad.add (k * 6)).off + 2, none⟩ = some (.string (l[k]'(by rw [h.len]; exact hk)).contract) ∧
    w.cell? ⟨(ad.add (k * 6)).block, (ad.add (k * 6)).off + 3, none⟩ = some (.int .i64 (l[k]'(by rw [h.len]; exact hk)).kind) ∧
    w.cell? ⟨(ad.add (k * 6)).block, (ad.add (k * 6)).off + 4, none⟩ = some (.int .i64 (l[k]'(by rw [h.len]; exact hk)).status) ∧
    w.cell? ⟨(ad.add (k * 6)).block, (ad.add (k * 6)).off + 5, none⟩ = some (.int .i64 (l[k]'(by rw [h.len]; exact hk)).expiry) := by
  obtain ⟨ad, hA, hb, hc⟩ := h.at_ hk
  refine ⟨ad, hA, hb, hc 0 _ rfl, ?_, ?_, ?_, ?_, ?_⟩
  · rw [← add_next ad (k * 6) 0]; exact hc 1 _ rfl
  · rw [← add_next ad (k * 6) 1]; exact hc 2 _ rfl
  · rw [← add_next ad (k * 6) 2]; exact hc 3 _ rfl
  · rw [← add_next ad (k * 6) 3]; exact hc 4 _ rfl
  · rw [← add_next ad (k * 6) 4]; exact hc 5 _ rfl
/-- the status of a token at a time -/
def statT (t : Tk) (now : Int) : Int := if t.status = 1 ∧ t.expiry ≠ -1 ∧ t.expiry ≤ now then 3 else t.status
def tkObj (t : Tk) : Obj := .cells #[.string t.id, .string t.group, .string t.contract, .int .i64 t.kind, .int .i64 t.status, .int .i64 t.expiry] 33
theorem status_any (t : Tk) (now : Int) (w : World) : Calls Try.prog 107 #[tkV t, .int .i64 now] w fun e w' => e = .returned (.int .i64 (statT t now)) ∧ Below w.heap.size w w' := by
  unfold tkV
  by_cases h1 : t.status = 1
  · have d1 : (t.status == 1) = true := by simpa using h1
    by_cases h2 : t.expiry = -1
    · have d2 : (t.expiry != -1) = false := by simpa using h2
      have hF : Hid (statT t now = t.status) := by show _ = _; rw [statT, if_neg (fun h => h.2.1 h2)]
      replace h1 := Lib.hid h1
      replace h2 := Lib.hid h2
      go_enter Try.func107, Try.ntmps107
      go_wp2_with fail
      go_ret
      exact ⟨ret_int hF.out.symm, a1 _ _⟩
    · have d2 : (t.expiry != -1) = true := by simpa using h2
      by_cases h3 : t.expiry ≤ now
      · have hF : Hid (statT t now = 3) := by show _ = _; rw [statT, if_pos ⟨h1, h2, h3⟩]
        replace h1 := Lib.hid h1
        replace h2 := Lib.hid h2
        go_enter Try.func107, Try.ntmps107
        go_wp2_with fail
        go_ret
        exact ⟨ret_int hF.out.symm, a1 _ _⟩
      · have hF : Hid (statT t now = t.status) := by show _ = _; rw [statT, if_neg (fun h => h3 h.2.2)]
        replace h1 := Lib.hid h1
        replace h2 := Lib.hid h2
        go_enter Try.func107, Try.ntmps107
        go_wp2_with fail
        go_ret
        exact ⟨ret_int hF.out.symm, a1 _ _⟩
  · have d1 : (t.status == 1) = false := by simpa using h1
    have hF : Hid (statT t now = t.status) := by show _ = _; rw [statT, if_neg (fun h => h1 h.1)]
    replace h1 := Lib.hid h1
    go_enter Try.func107, Try.ntmps107
    go_wp2_with fail
    go_ret
    exact ⟨ret_int hF.out.symm, a1 _ _⟩
theorem rstatus_any (t : Tk) (now : Int) (w : World) : Calls Try.prog 29 #[tkV t, .int .i64 now] w fun e w' => e = .returned (.int .i64 (statT t now)) ∧ Below w.heap.size w w' := by
  unfold tkV
  by_cases h1 : t.status = 1
  · have d1 : (t.status == 1) = true := by simpa using h1
    by_cases h2 : t.expiry = -1
    · have d2 : (t.expiry != -1) = false := by simpa using h2
      have hF : Hid (statT t now = t.status) := by show _ = _; rw [statT, if_neg (fun h => h.2.1 h2)]
      replace h1 := Lib.hid h1
      replace h2 := Lib.hid h2
      go_enter Try.func29, Try.ntmps29
      go_wp2_with fail
      go_ret
      exact ⟨ret_int hF.out.symm, a1 _ _⟩
    · have d2 : (t.expiry != -1) = true := by simpa using h2
      by_cases h3 : t.expiry ≤ now
      · have hF : Hid (statT t now = 3) := by show _ = _; rw [statT, if_pos ⟨h1, h2, h3⟩]
        replace h1 := Lib.hid h1
        replace h2 := Lib.hid h2
        go_enter Try.func29, Try.ntmps29
        go_wp2_with fail
        go_ret
        exact ⟨ret_int hF.out.symm, a1 _ _⟩
      · have hF : Hid (statT t now = t.status) := by show _ = _; rw [statT, if_neg (fun h => h3 h.2.2)]
        replace h1 := Lib.hid h1
        replace h2 := Lib.hid h2
        go_enter Try.func29, Try.ntmps29
        go_wp2_with fail
        go_ret
        exact ⟨ret_int hF.out.symm, a1 _ _⟩
  · have d1 : (t.status == 1) = false := by simpa using h1
    have hF : Hid (statT t now = t.status) := by show _ = _; rw [statT, if_neg (fun h => h1 h.1)]
    replace h1 := Lib.hid h1
    go_enter Try.func29, Try.ntmps29
    go_wp2_with fail
    go_ret
    exact ⟨ret_int hF.out.symm, a1 _ _⟩
/-- the first token with an identifier -/
def findT (l : List Tk) (id : ByteArray) : Option Tk := l.find? fun t => same t.id id
def idxT (id : ByteArray) : Nat → List Tk → Int
  | _, [] => -1
  | k, t :: r => if same t.id id = true then k else idxT id (k + 1) r
theorem idx_find (id : ByteArray) : ∀ (l : List Tk) (k : Nat), (idxT id k l = -1 ∧ findT l id = none) ∨ ∃ i, ∃ h : i < l.length, idxT id k l = k + i ∧ findT l id = some l[i] := by
  intro l
  induction l with
  | nil => intro k; left; exact ⟨rfl, rfl⟩
  | cons t r ih =>
    intro k
    cases hs : same t.id id with
    | true => right; exact ⟨0, by simp, by simp [idxT, hs], by simp [findT, hs]⟩
    | false =>
      rcases ih (k + 1) with ⟨h1, h2⟩ | ⟨i, hi, h1, h2⟩
      · left; exact ⟨by simp [idxT, hs, h1], by simpa [findT, hs] using h2⟩
      · right; exact ⟨i + 1, by simp; omega, by simp [idxT, hs, h1]; omega, by simpa [findT, hs] using h2⟩
theorem find_step (l : List Tk) (id : ByteArray) (k : Nat) (h : k < l.length) : findT (l.drop k) id = if same l[k].id id = true then some l[k] else findT (l.drop (k + 1)) id := by
  rw [List.drop_eq_getElem_cons h]
  unfold findT
  rw [List.find?_cons]
  cases same l[k].id id <;> rfl
theorem idx_step (l : List Tk) (id : ByteArray) (k : Nat) (h : k < l.length) : idxT id k (l.drop k) = if same l[k].id id = true then (k : Int) else idxT id (k + 1) (l.drop (k + 1)) := by
  rw [List.drop_eq_getElem_cons h]
  rfl
set_option maxRecDepth 100000 in
set_option maxHeartbeats 400000 in
theorem index_any (A : Option Addr) (l : List Tk) (n cap : Nat) (id : ByteArray) (w : World) (h : TAt w w.heap.size A n l) (hm : n ≤ maxLen) (hid : id.size ≤ maxLen) (hl : ∀ t ∈ l, TkOk t) :
    Calls Try.prog 115 #[.slice A n cap, .string id] w fun e w' => e = .returned (.int .i64 (idxT id 0 l)) ∧ Below w.heap.size w w' := by
  unfold maxLen at hm
  have hn := Lib.hid h.len
  replace h := Lib.hid h
  replace hl := Lib.hid hl
  go_enter Try.func115, Try.ntmps115
  go_wp2_with fail
  go_loopw [9] (fun i wr => ∃ k : Nat, k ≤ n ∧ i = .int .i64 k ∧ Hid (Below w.heap.size w wr) ∧ Hid (idxT id 0 l = idxT id k (l.drop k))) (fun i _ => n - (intOf i).toNat)
  case atStart => exact ⟨0, Nat.zero_le _, rfl, Below.refl _ _, rfl⟩
  case round =>
    obtain ⟨k, hk, rfl, hb, hx⟩ := hrel
    by_cases hlt : k < n
    · have hkl : k < l.length := by rw [hn.out]; exact hlt
      have hst := Lib.hid (idx_step l id k hkl)
      obtain ⟨ad, hA, hbl, c0, c1, c2, c3, c4, c5⟩ := TAt.cell (h.out.below hb.out (Nat.le_refl _)) hlt
      subst hA
      have ho := (hl.out _ (List.getElem_mem hkl)).1
      generalize l[k] = t at *
      obtain ⟨t0, t1, t2, t3, t4, t5⟩ := t
      simp only at c0 c1 c2 c3 c4 c5 ho
      have hb1 : Hid (Below w.heap.size w (wr.alloc (tkObj ⟨t0, t1, t2, t3, t4, t5⟩))) := hb.out.alloc hb.out.size _
      cases hs : same t0 id with
      | true =>
        have hF : Hid (idxT id 0 l = k) := by show _ = _; rw [hx.out, hst.out, hs]; rfl
        replace hs := Lib.hid hs
        go_wp2_with fail
        refine (same_any t0 id _ ho hid).mono ?_; rintro e w1 ⟨rfl, m1, rfl⟩
        rw [hs.out]
        go_wp2_with fail
        go_ret
        exact ⟨ret_int hF.out.symm, below_drewN hb1.out _⟩
      | false =>
        have hF : Hid (idxT id 0 l = idxT id (k + 1) (l.drop (k + 1))) := by show _ = _; rw [hx.out, hst.out, hs]; rfl
        replace hs := Lib.hid hs
        go_wp2_with fail
        refine (same_any t0 id _ ho hid).mono ?_; rintro e w1 ⟨rfl, m1, rfl⟩
        rw [hs.out]
        go_wp2_with fail
        go_roundw
        case rel => exact ⟨k + 1, by omega, by go_num, below_drewN hb1.out _, hF⟩
        case measure => simp [intOf]; omega
    · have hF : Hid (idxT id 0 l = -1) := by show _ = _; rw [hx.out, List.drop_of_length_le (by rw [hn.out]; omega)]; rfl
      go_wp2_with fail
      go_ret
      exact ⟨ret_int hF.out.symm, hb.out⟩
/-- what Find hands back -/
def resT (o : Option Tk) : Value := .tuple #[tkV (o.getD tk0), .bool o.isSome]
set_option maxRecDepth 100000 in
set_option maxHeartbeats 400000 in
theorem find_any (A : Option Addr) (l : List Tk) (n cap : Nat) (id : ByteArray) (w : World) (h : TAt w w.heap.size A n l) (hm : n ≤ maxLen) (hid : id.size ≤ maxLen) (hl : ∀ t ∈ l, TkOk t) :
    Calls Try.prog 106 #[.slice A n cap, .string id] w fun e w' => e = .returned (resT (findT l id)) ∧ Below w.heap.size w w' := by
  have hn := Lib.hid h.len
  rcases idx_find id l 0 with ⟨h1, h2⟩ | ⟨i, hi, h1, h2⟩
  · replace h1 := Lib.hid h1
    have hF : Hid (resT (findT l id) = .tuple #[tkV tk0, .bool false]) := by show _ = _; rw [h2]; rfl
    replace h2 := Lib.hid h2
    replace h := Lib.hid h
    replace hl := Lib.hid hl
    go_enter Try.func106, Try.ntmps106
    go_wp2_with fail
    refine (index_any A l n cap id _ (h.out.more (a1 _ _)) hm hid hl.out).mono ?_; rintro e w1 ⟨rfl, hb⟩
    rw [h1.out]
    obtain ⟨hc, hf⟩ := bcell hb
    have hz : w.heap.size < w1.heap.size := by have := hb.size; simp at this; omega
    replace hb := Lib.hid hb
    go_wp2_with fail
    refine bodyPost_ret (v := .tuple #[tkV tk0, .bool false]) (by simp [results, Try.results106, go_sem, hc, tkV, tk0]) rfl ⟨by rw [hF.out], ?_⟩
    repeat (with_reducible refine below_set ?_ (Nat.le_refl _) _ _)
    exact below_a hb.out
  · replace h1 : Hid (idxT id 0 l = i) := by show _ = _; rw [h1]; simp
    have hin : i < n := by have := h.len; omega
    have hF : Hid (resT (findT l id) = .tuple #[tkV l[i], .bool true]) := by show _ = _; rw [h2]; rfl
    replace h2 := Lib.hid h2
    replace h := Lib.hid h
    replace hl := Lib.hid hl
    have hcl := TAt.cell h.out hin
    have hin' : (i : Int) < n := by omega
    go_enter Try.func106, Try.ntmps106
    go_wp2_with fail
    refine (index_any A l n cap id _ (h.out.more (a1 _ _)) hm hid hl.out).mono ?_; rintro e w1 ⟨rfl, hb⟩
    rw [h1.out]
    obtain ⟨hc, hf⟩ := bcell hb
    have hz : w.heap.size < w1.heap.size := by have := hb.size; simp at this; omega
    obtain ⟨ad, hA, hbl, c0, c1, c2, c3, c4, c5⟩ := TAt.cell ((h.out.more (a1 _ _)).more hb) hin
    subst hA
    replace hb := Lib.hid hb
    clear hcl
    generalize l[i] = t at *
    obtain ⟨t0, t1, t2, t3, t4, t5⟩ := t
    simp only at c0 c1 c2 c3 c4 c5
    go_wp2_with fail
    refine bodyPost_ret (v := .tuple #[tkV ⟨t0, t1, t2, t3, t4, t5⟩, .bool true]) (by simp [results, Try.results106, go_sem, hc, tkV]) rfl ⟨by rw [hF.out], ?_⟩
    repeat (with_reducible refine below_set ?_ (Nat.le_refl _) _ _)
    exact below_a hb.out
set_option maxRecDepth 100000 in
set_option maxHeartbeats 400000 in
theorem rfind_any (A : Option Addr) (l : List Tk) (n cap : Nat) (id : ByteArray) (w : World) (h : TAt w w.heap.size A n l) (hm : n ≤ maxLen) (hid : id.size ≤ maxLen) (hl : ∀ t ∈ l, TkOk t) :
    Calls Try.prog 66 #[.slice A n cap, .string id] w fun e w' => e = .returned (resT (findT l id)) ∧ Below w.heap.size w w' := by
  unfold maxLen at hm
  have hn := Lib.hid h.len
  replace h := Lib.hid h
  replace hl := Lib.hid hl
  go_enter Try.func66, Try.ntmps66
  go_wp2_with fail
  go_loopw [10] (fun i wr => ∃ k : Nat, k ≤ n ∧ i = .int .i64 k ∧ Hid (Below (w.alloc (.cells #[.string ⟨#[]⟩, .string ⟨#[]⟩, .string ⟨#[]⟩, .int .i64 0, .int .i64 0, .int .i64 0] 33)).heap.size (w.alloc (.cells #[.string ⟨#[]⟩, .string ⟨#[]⟩, .string ⟨#[]⟩, .int .i64 0, .int .i64 0, .int .i64 0] 33)) wr) ∧ Hid (findT l id = findT (l.drop k) id)) (fun i _ => n - (intOf i).toNat)
  case atStart => exact ⟨0, Nat.zero_le _, rfl, Below.refl _ _, rfl⟩
  case round =>
    obtain ⟨k, hk, rfl, hb, hx⟩ := hrel
    have hw : Hid (Below w.heap.size w wr) := below_a hb.out
    by_cases hlt : k < n
    · have hkl : k < l.length := by rw [hn.out]; exact hlt
      have hst := Lib.hid (find_step l id k hkl)
      obtain ⟨ad, hA, hbl, c0, c1, c2, c3, c4, c5⟩ := TAt.cell (h.out.below hw.out (Nat.le_refl _)) hlt
      subst hA
      have ho := (hl.out _ (List.getElem_mem hkl)).1
      generalize l[k] = t at *
      obtain ⟨t0, t1, t2, t3, t4, t5⟩ := t
      simp only at c0 c1 c2 c3 c4 c5 ho
      have hb1 : Hid (Below (w.alloc (.cells #[.string ⟨#[]⟩, .string ⟨#[]⟩, .string ⟨#[]⟩, .int .i64 0, .int .i64 0, .int .i64 0] 33)).heap.size (w.alloc (.cells #[.string ⟨#[]⟩, .string ⟨#[]⟩, .string ⟨#[]⟩, .int .i64 0, .int .i64 0, .int .i64 0] 33)) (wr.alloc (tkObj ⟨t0, t1, t2, t3, t4, t5⟩))) := hb.out.alloc hb.out.size _
      have hsz : w.heap.size < wr.heap.size := by have := hb.out.size; simp at this; omega
      cases hs : same t0 id with
      | true =>
        have hF : Hid (resT (findT l id) = .tuple #[tkV ⟨t0, t1, t2, t3, t4, t5⟩, .bool true]) := by show _ = _; rw [hx.out, hst.out, hs]; rfl
        replace hs := Lib.hid hs
        go_wp2_with fail
        refine (rsame_any t0 id _ ho hid).mono ?_; rintro e w1 ⟨rfl, hbs⟩
        rw [hs.out]
        obtain ⟨hc, hf⟩ := bcell hbs
        obtain ⟨hc2, hf2⟩ := bcell hb.out
        have hz : wr.heap.size < w1.heap.size := by have := hbs.size; simp at this; omega
        replace hbs := Lib.hid hbs
        go_wp2_with fail
        refine bodyPost_ret (v := .tuple #[tkV ⟨t0, t1, t2, t3, t4, t5⟩, .bool true]) (by simp [results, Try.results66, go_sem, hc, hc2, hsz, Nat.lt_succ_of_lt hsz, tkV]) rfl ⟨by rw [hF.out], ?_⟩
        repeat (with_reducible refine below_set ?_ (Nat.le_refl _) _ _)
        exact hw.out.trans ((below_a hbs.out).mono hw.out.size)
      | false =>
        have hF : Hid (findT l id = findT (l.drop (k + 1)) id) := by show _ = _; rw [hx.out, hst.out, hs]; rfl
        replace hs := Lib.hid hs
        go_wp2_with fail
        refine (rsame_any t0 id _ ho hid).mono ?_; rintro e w1 ⟨rfl, hbs⟩
        rw [hs.out]
        replace hbs := Lib.hid hbs
        go_wp2_with fail
        go_roundw
        case rel => exact ⟨k + 1, by omega, by go_num, hb1.out.trans (hbs.out.mono hb1.out.size), hF⟩
        case measure => simp [intOf]; omega
    · have hF : Hid (resT (findT l id) = .tuple #[tkV tk0, .bool false]) := by show _ = _; rw [hx.out, List.drop_of_length_le (by rw [hn.out]; omega)]; rfl
      obtain ⟨hc, hf⟩ := bcell hb.out
      have hz : w.heap.size < wr.heap.size := by have := hb.out.size; simp at this; omega
      go_wp2_with fail
      refine bodyPost_ret (v := .tuple #[tkV tk0, .bool false]) (by simp [results, Try.results66, go_sem, hc, tkV, tk0]) rfl ⟨by rw [hF.out], ?_⟩
      repeat (with_reducible refine below_set ?_ (Nat.le_refl _) _ _)
      exact hw.out
end Go.Proofs.Ytiggpgeldigknaa
