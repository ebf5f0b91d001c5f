/- Invoices: add, walked. -/
import Derived.Test.YtbngclibfnnejaaDoorIF
import Derived.Test.YtbngclibfnnejaaDoorAF
import Derived.Test.YtbngclibfnnejaaDoorIn
import Derived.Test.YtbngclibfnnejaaDoorRV
import Derived.Laws.MakeOwn
set_option linter.unusedVariables false
set_option linter.unusedSimpArgs false
namespace Go.Proofs.YtbngclibfnnejaaDoor
open Go.RowKit
theorem row_ne {α β : Type} {f1 : α → List Value} {f2 : β → List Value} {s1 s2 b1 b2 : Nat} {e1 e2 : TypeId} {w : World} {v1 v2 : Value} {l1 : List α} {l2 : List β} (h1 : LOwn f1 s1 e1 w b1 v1 l1) (h2 : LOwn f2 s2 e2 w b2 v2 l2) (hne : e1 ≠ e2) : v1.ownBlock = none ∨ v1.ownBlock ≠ v2.ownBlock := by
  rcases h1.2.2 with ⟨rfl, _⟩ | ⟨g, c, cur, rfl, _, hh, _⟩
  · exact .inl rfl
  · rcases h2.2.2 with ⟨rfl, _⟩ | ⟨g', c', cur', rfl, _, hh', _⟩
    · exact .inr (by simp [Value.ownBlock])
    · refine .inr (fun e => ?_)
      simp [Value.ownBlock] at e
      subst e
      rw [hh] at hh'
      injection hh' with hh'
      injection hh' with _ hh' _
      exact hne hh'
theorem LOwn.grownT {α β : Type} {f1 : α → List Value} {f2 : β → List Value} {s1 s2 b1 b2 : Nat} {e1 e2 : TypeId} {w w' : World} {v1 v2 : Value} {l1 : List α} {l2 : List β} (h1 : LOwn f1 s1 e1 w b1 v1 l1) (h2 : LOwn f2 s2 e2 w b2 v2 l2) (hne : e1 ≠ e2) (hg : w.grownBy w' v2.ownBlock) : LOwn f1 s1 e1 w' b1 v1 l1 :=
  ⟨h1.1, World.ownsRow.kept h1.2 hg (row_ne h1 h2 hne)⟩
theorem LOwn.grownB {α : Type} {f1 : α → List Value} {s1 b1 : Nat} {e1 t : TypeId} {w w' : World} {v1 : Value} {l1 : List α} {g : Nat} {cs : Array Value} (h1 : LOwn f1 s1 e1 w b1 v1 l1) (h2 : Blk w g t cs) (hne : e1 ≠ t) (hg : w.grownBy w' (some g)) : LOwn f1 s1 e1 w' b1 v1 l1 :=
  ⟨h1.1, World.ownsRow.kept h1.2 hg (.inr (own_blk_ne h1.2 h2 hne))⟩
theorem res2 {P : Program} {fn : Func} {p u : Tmp} {ty : TypeId} (h : fn.results = #[.cell p ty, .tmp u]) (tmps : Array Value) (w : World) (g : Nat) (t : TypeId) (cs : Array Value) (fr : Nat × Nat) (d : TypeDesc)
    (hp : tmps.getD p undef = .pointer (some ⟨g, 0, none⟩)) (hg : w.heap[g]? = some (.cells cs t fr))
    (hu : P.underlying ty = some d) (hd : (match d with | .struct _ | .array _ _ => true | _ => false) = true) (hi : (P.info? ty).map (·.size) = some cs.size) :
    (results fn tmps).run P w = .ok (.tuple #[.agg cs, tmps.getD u undef]) w := by
  rw [results_cell_tmp h, hp]
  have hp' : tmps[p]?.getD undef = .pointer (some ⟨g, 0, none⟩) := by simpa using hp
  simp [Sem.run_bind, Result.andThen, hp', asAddr, run_loadVar_row w g t ty cs fr d hg hu hd hi]
theorem eval_tmpi (a : Act) (t : Tmp) : a.eval (.tmp t) = a.tmps[t]?.getD undef := by simp [Act.eval, Array.getD_eq_getD_getElem?]
/-- an invoice whose items lie in a row of the call's own -/
def NewI (w : World) (base : Nat) (x : Im) : Prop := LOwn itC 7 90 w base (.slice x.A x.n x.c) x.items
theorem NewI.at_ {w : World} {base : Nat} {x : Im} (h : NewI w base x) : ImAt w x := by
  obtain ⟨A, c, e, h1, h2, -, h3⟩ := h.form
  injection e with e1 e2 e3
  unfold ImAt
  rw [e1, e2, e3]
  exact ⟨h3, h1, h2⟩
/-- what a call hands back: a book and an error -/
def ResB (w w' : World) (B : List Iv) (E : Int) (e : Ending) : Prop := ∃ A n c L, e = .returned (.tuple #[.agg #[.slice A n c], .int .i64 E]) ∧ BkAt w' A n c L ∧ L.map Im.val = B
theorem LOwn.lat {α : Type} {f : α → List Value} {s base n c : Nat} {e : TypeId} {w : World} {A : Option Addr} {l : List α} (h : LOwn f s e w base (.slice A n c) l) : LAt f s w w.heap.size A n l := by
  obtain ⟨A', c', e, h1, h2, -, h3⟩ := h.form
  injection e with e1 e2 e3
  subst e1
  subst e2
  exact h3
theorem BkAt.own {w : World} {base : Nat} {A : Option Addr} {n c : Nat} {L : List Im} (h : LOwn ivC 9 100 w base (.slice A n c) L) (hi : ∀ x ∈ L, ImAt w x) : BkAt w A n c L := by
  obtain ⟨A', c', e, h1, h2, -, h3⟩ := h.form
  injection e with e1 e2 e3
  subst e1
  subst e2
  subst e3
  exact ⟨h3, ⟨h1, h2⟩, hi⟩
def F22 (gd gv base n c : Nat) (A : Option Addr) (Xv : Array Value) (X : List Im) : Tmp → Value → World → Prop
  | 2, v, _ => v = .pointer (some ⟨gd, 0, none⟩)
  | 3, v, _ => v = .pointer (some ⟨gv, 0, none⟩)
  | 47, v, _ => v = .pointer (some ⟨gd, 0, none⟩)
  | 48, v, _ => v = .pointer (some ⟨gd, 0, none⟩)
  | 49, v, _ => v = .slice A n c
  | 50, v, _ => v = .pointer (some ⟨gd, 0, none⟩)
  | 51, v, _ => v = .pointer (some ⟨gd, 0, none⟩)
  | 52, v, _ => v = .slice A n c
  | 53, v, _ => v = .int .i64 (n : Int)
  | 54, v, _ => v = .pointer (some ⟨gd, 0, none⟩)
  | 55, v, _ => v = .pointer (some ⟨gd, 0, none⟩)
  | 56, v, _ => v = .slice A n c
  | 57, v, _ => v = .int .i64 (n : Int)
  | 58, v, _ => v = .slice A n n
  | 59, v, _ => v = .agg Xv
  | 60, v, w => LitIs 100 base 1 Xv v w
  | 61, v, w => LOwn ivC 9 100 w base v X
  | 62, v, _ => v = .int .i64 ((n : Int) + 1)
  | 63, v, _ => v = .int .i64 0
  | _, _, _ => True
theorem F22_more {gd gv base n c : Nat} {A : Option Addr} {Xv : Array Value} {X : List Im} (d t : Tmp) (v : Value) (w w' : World) (hR : Rb w w') (hne : t ≠ d) (hc : ([] : List (Tmp × Tmp)).contains (d, t) = false) (h : F22 gd gv base n c A Xv X t v w) : F22 gd gv base n c A Xv X t v w' := by
  unfold F22 at *
  split at h <;> first | exact h | exact LitIs.more h hR | exact fun hg => LitIs.more (h hg) hR | exact LOwn.kept h hR | exact fun hg => LOwn.kept (h hg) hR
theorem F22_lit (tm : Array Value) (hs : tm.size = 82) : tm = #[tm[0]?.getD undef, tm[1]?.getD undef, tm[2]?.getD undef, tm[3]?.getD undef, tm[4]?.getD undef, tm[5]?.getD undef, tm[6]?.getD undef, tm[7]?.getD undef, tm[8]?.getD undef, tm[9]?.getD undef, tm[10]?.getD undef, tm[11]?.getD undef, tm[12]?.getD undef, tm[13]?.getD undef, tm[14]?.getD undef, tm[15]?.getD undef, tm[16]?.getD undef, tm[17]?.getD undef, tm[18]?.getD undef, tm[19]?.getD undef, tm[20]?.getD undef, tm[21]?.getD undef, tm[22]?.getD undef, tm[23]?.getD undef, tm[24]?.getD undef, tm[25]?.getD undef, tm[26]?.getD undef, tm[27]?.getD undef, tm[28]?.getD undef, tm[29]?.getD undef, tm[30]?.getD undef, tm[31]?.getD undef, tm[32]?.getD undef, tm[33]?.getD undef, tm[34]?.getD undef, tm[35]?.getD undef, tm[36]?.getD undef, tm[37]?.getD undef, tm[38]?.getD undef, tm[39]?.getD undef, tm[40]?.getD undef, tm[41]?.getD undef, tm[42]?.getD undef, tm[43]?.getD undef, tm[44]?.getD undef, tm[45]?.getD undef, tm[46]?.getD undef, tm[47]?.getD undef, tm[48]?.getD undef, tm[49]?.getD undef, tm[50]?.getD undef, tm[51]?.getD undef, tm[52]?.getD undef, tm[53]?.getD undef, tm[54]?.getD undef, tm[55]?.getD undef, tm[56]?.getD undef, tm[57]?.getD undef, tm[58]?.getD undef, tm[59]?.getD undef, tm[60]?.getD undef, tm[61]?.getD undef, tm[62]?.getD undef, tm[63]?.getD undef, tm[64]?.getD undef, tm[65]?.getD undef, tm[66]?.getD undef, tm[67]?.getD undef, tm[68]?.getD undef, tm[69]?.getD undef, tm[70]?.getD undef, tm[71]?.getD undef, tm[72]?.getD undef, tm[73]?.getD undef, tm[74]?.getD undef, tm[75]?.getD undef, tm[76]?.getD undef, tm[77]?.getD undef, tm[78]?.getD undef, tm[79]?.getD undef, tm[80]?.getD undef, tm[81]?.getD undef] := lit_arr tm 82 hs
set_option maxRecDepth 100000 in
set_option maxHeartbeats 8000000 in
theorem add_any (A : Option Addr) (n c : Nat) (L : List Im) (cu cr : ByteArray) (t : Int) (iA : Option Addr) (iN iC2 : Nat) (its : List It) (cd : Int) (w : World) (h : GoodM w A n c L) (hi : ItAt w iA iN its ∧ iN ≤ iC2 ∧ iC2 ≤ maxLen) (hs : smallI its = true) (hl64 : its.length ≤ 64) (hn : n ≤ 255) : Calls Tryd.prog 31 #[.agg #[Value.slice A n c], .agg #[Value.int .i64 0, Value.string cu, Value.string cr, Value.int .i64 t, Value.slice iA iN iC2, Value.int .i64 0, Value.int .i64 0, Value.int .i64 0, Value.int .i64 cd]] w fun e w' => ResB w w' (L.map Im.val ++ [mkIv (L.map Im.val) cu cr t its cd]) 0 e ∧ Below w.heap.size w w' := by
  have hl := h.at_.len
  have hcap : Hid (n ≤ c) := h.at_.cap.1
  have hn255 := Lib.hid hn
  have hit : its.length = iN := hi.1.len
  obtain ⟨S1, hS1⟩ : ∃ S, S = netS its := ⟨_, rfl⟩
  obtain ⟨S2, hS2⟩ : ∃ S, S = vatS its := ⟨_, rfl⟩
  obtain ⟨S3, hS3⟩ : ∃ S, S = grossS its := ⟨_, rfl⟩
  obtain ⟨X, hX⟩ : ∃ X, X = L ++ [(⟨(n : Int) + 1, cu, cr, t, iA, iN, iC2, its, S1, S2, S3, cd⟩ : Im)] := ⟨_, rfl⟩
  have hXl : Hid (X.length = n + 1) := by show _ = _; rw [hX, List.length_append, hl]; rfl
  have hXv : Hid (X.map Im.val = L.map Im.val ++ [mkIv (L.map Im.val) cu cr t its cd]) := by
    show _ = _
    rw [hX, List.map_append]
    unfold mkIv
    rw [List.length_map, hl, ← hS1, ← hS2, ← hS3]
    rfl
  have hXI : Hid (∀ x ∈ X, ImAt w x) := fun x hx => by
    rw [hX] at hx
    rcases List.mem_append.1 hx with h1 | h1
    · exact h.at_.its x h1
    · rw [List.mem_singleton.1 h1]; exact hi
  have hXs : Hid (∀ x ∈ X, x.items.length ≤ 64) := fun x hx => by
    rw [hX] at hx
    rcases List.mem_append.1 hx with h1 | h1
    · obtain ⟨k, hk, rfl⟩ := List.getElem_of_mem h1
      exact (h.small hk).2.2
    · rw [List.mem_singleton.1 h1]; exact hl64
  replace hX := Lib.hid hX
  have htot : Hid (∀ wz, Below w.heap.size w wz → Calls Tryd.prog 13 #[.slice iA iN iC2] wz fun e w' => e = .returned (.tuple #[.int .i64 S1, .int .i64 S2, .int .i64 S3, .int .i64 0]) ∧ Below wz.heap.size wz w') := fun wz hz => by
    rw [hS1, hS2, hS3]
    exact totals_any iA iN iC2 its wz (hi.1.more hz) (by omega) hs
  have hL0 := Lib.hid h.at_.row
  obtain ⟨i45, hi45, hz450, hz451, hz452⟩ := info_parts iv_info
  obtain ⟨i39, hi39, hz390, hz391, hz392⟩ := info_parts it_info
  have hmk0 := Lib.hid (fun wz => made_row (P := Tryd.prog) wz 55 100 i45 _ 9 Tryd.underlying55 hi45 hz450 hz451 0 (n + 1) 0 ((n : Int) + 1) rfl (by omega) (Nat.zero_le _) (by rw [hz452]; omega) (by omega))
  have hMs := size_madeCells (Value.agg #[.int .i64 0, .string "".toUTF8, .string "".toUTF8, .int .i64 0, .slice none 0 0, .int .i64 0, .int .i64 0, .int .i64 0, .int .i64 0]).cells ((n + 1) * 9)
  obtain ⟨M, hM⟩ : ∃ M, M = madeCells (Value.agg #[.int .i64 0, .string "".toUTF8, .string "".toUTF8, .int .i64 0, .slice none 0 0, .int .i64 0, .int .i64 0, .int .i64 0, .int .i64 0]).cells ((n + 1) * 9) := ⟨_, rfl⟩
  rw [← hM] at hmk0 hMs
  replace hMs := Lib.hid hMs
  replace hi45 := Lib.hid hi45
  replace hz450 := Lib.hid hz450
  replace hz451 := Lib.hid hz451
  replace hz452 := Lib.hid hz452
  replace hi39 := Lib.hid hi39
  replace hz390 := Lib.hid hz390
  replace hz391 := Lib.hid hz391
  replace hz392 := Lib.hid hz392
  replace hS1 := Lib.hid hS1
  replace hS2 := Lib.hid hS2
  replace hS3 := Lib.hid hS3
  clear h hi hs hM hl
  have hb3 : Hid (Below w.heap.size w (((w.alloc (.cells #[Value.slice A n c] 95)).alloc (.cells #[Value.int .i64 0, Value.string cu, Value.string cr, Value.int .i64 t, Value.slice iA iN iC2, Value.int .i64 0, Value.int .i64 0, Value.int .i64 0, Value.int .i64 cd] 100)).alloc (.cells #[Value.slice none 0 0] 57))) := ((a1 w _).alloc (by simp) _).alloc (by simp; omega) _
  have hd := Lib.hid (((Blk.new w 95 #[Value.slice A n c]).alloc (.cells #[Value.int .i64 0, Value.string cu, Value.string cr, Value.int .i64 t, Value.slice iA iN iC2, Value.int .i64 0, Value.int .i64 0, Value.int .i64 0, Value.int .i64 cd] 100)).alloc (.cells #[Value.slice none 0 0] 57))
  have hy := (Blk.new (w.alloc (.cells #[Value.slice A n c] 95)) 100 #[Value.int .i64 0, Value.string cu, Value.string cr, Value.int .i64 t, Value.slice iA iN iC2, Value.int .i64 0, Value.int .i64 0, Value.int .i64 0, Value.int .i64 cd]).alloc (.cells #[Value.slice none 0 0] 57)
  rw [show (w.alloc (.cells #[Value.slice A n c] 95)).heap.size = w.heap.size + 1 by simp] at hy
  have hr := Blk.new ((w.alloc (.cells #[Value.slice A n c] 95)).alloc (.cells #[Value.int .i64 0, Value.string cu, Value.string cr, Value.int .i64 t, Value.slice iA iN iC2, Value.int .i64 0, Value.int .i64 0, Value.int .i64 0, Value.int .i64 cd] 100)) 57 #[Value.slice none 0 0]
  rw [show ((w.alloc (.cells #[Value.slice A n c] 95)).alloc (.cells #[Value.int .i64 0, Value.string cu, Value.string cr, Value.int .i64 t, Value.slice iA iN iC2, Value.int .i64 0, Value.int .i64 0, Value.int .i64 0, Value.int .i64 cd] 100)).heap.size = w.heap.size + 1 + 1 by simp] at hr
  obtain ⟨m0, m1, m2, m3, m4, m5, m6, m7, m8⟩ := cells9 ((((w.alloc (.cells #[Value.slice A n c] 95)).alloc (.cells #[Value.int .i64 0, Value.string cu, Value.string cr, Value.int .i64 t, Value.slice iA iN iC2, Value.int .i64 0, Value.int .i64 0, Value.int .i64 0, Value.int .i64 cd] 100)).alloc (.cells #[Value.slice none 0 0] 57))) ((w.heap.size + 1)) (Value.int .i64 0) (Value.string cu) (Value.string cr) (Value.int .i64 t) (Value.slice iA iN iC2) (Value.int .i64 0) (Value.int .i64 0) (Value.int .i64 0) (Value.int .i64 cd) (hy)
  replace hy := Lib.hid hy
  replace hr := Lib.hid hr
  go_enter Tryd.func31, Tryd.ntmps31
  go_wp2_with fail
  clear m0 m1 m2 m3 m4 m5 m6 m7 m8
  refine (htot.out _ hb3.out).mono ?_; rintro e w1 ⟨rfl, hq⟩
  have hd := Lib.hid (hd.out.below hq hd.out.lt)
  have hy := Lib.hid (hy.out.below hq hy.out.lt)
  have hr := Lib.hid (hr.out.below hq hr.out.lt)
  have hb1 := Lib.hid (hb3.out.trans (hq.mono hb3.out.size))
  have hw1 : w.heap.size + 1 + 1 < w1.heap.size := hr.out.lt
  clear hq hb3 htot
  obtain ⟨m0, m1, m2, m3, m4, m5, m6, m7, m8, mz0, mz1, mz2, mz3, mz4, mz5, mz6, mz7, mz8⟩ := cells9z (w1) ((w.heap.size + 1)) (Value.int .i64 0) (Value.string cu) (Value.string cr) (Value.int .i64 t) (Value.slice iA iN iC2) (Value.int .i64 0) (Value.int .i64 0) (Value.int .i64 0) (Value.int .i64 cd) (hy.out)
  have d1 : w1.cell? ⟨w.heap.size, 0, none⟩ = some (Value.slice A n c) := hd.out.cell 0
  have hd2 : Blk ((((w1.setCell ⟨(w.heap.size + 1), 0, none⟩ (Value.int .i64 ((n : Int) + 1))).setCell ⟨(w.heap.size + 1), 5, none⟩ (Value.int .i64 S1)).setCell ⟨(w.heap.size + 1), 6, none⟩ (Value.int .i64 S2)).setCell ⟨(w.heap.size + 1), 7, none⟩ (Value.int .i64 S3)) w.heap.size 95 #[Value.slice A n c] := (((((hd.out).far (p := ⟨(w.heap.size + 1), 0, none⟩) (by simp) _).far (p := ⟨(w.heap.size + 1), 5, none⟩) (by simp) _).far (p := ⟨(w.heap.size + 1), 6, none⟩) (by simp) _).far (p := ⟨(w.heap.size + 1), 7, none⟩) (by simp) _)
  have hr2 : Blk ((((w1.setCell ⟨(w.heap.size + 1), 0, none⟩ (Value.int .i64 ((n : Int) + 1))).setCell ⟨(w.heap.size + 1), 5, none⟩ (Value.int .i64 S1)).setCell ⟨(w.heap.size + 1), 6, none⟩ (Value.int .i64 S2)).setCell ⟨(w.heap.size + 1), 7, none⟩ (Value.int .i64 S3)) (w.heap.size + 1 + 1) 57 #[Value.slice none 0 0] := (((((hr.out).far (p := ⟨(w.heap.size + 1), 0, none⟩) (by simp) _).far (p := ⟨(w.heap.size + 1), 5, none⟩) (by simp) _).far (p := ⟨(w.heap.size + 1), 6, none⟩) (by simp) _).far (p := ⟨(w.heap.size + 1), 7, none⟩) (by simp) _)
  have hy2 : Blk ((((w1.setCell ⟨(w.heap.size + 1), 0, none⟩ (Value.int .i64 ((n : Int) + 1))).setCell ⟨(w.heap.size + 1), 5, none⟩ (Value.int .i64 S1)).setCell ⟨(w.heap.size + 1), 6, none⟩ (Value.int .i64 S2)).setCell ⟨(w.heap.size + 1), 7, none⟩ (Value.int .i64 S3)) (w.heap.size + 1) 100 #[Value.int .i64 ((n : Int) + 1), Value.string cu, Value.string cr, Value.int .i64 t, Value.slice iA iN iC2, Value.int .i64 S1, Value.int .i64 S2, Value.int .i64 S3, Value.int .i64 cd] := (((hy.out.set_ 0 (Value.int .i64 ((n : Int) + 1))).set_ 5 (Value.int .i64 S1)).set_ 6 (Value.int .i64 S2)).set_ 7 (Value.int .i64 S3)
  have hb2 : Below w.heap.size w ((((w1.setCell ⟨(w.heap.size + 1), 0, none⟩ (Value.int .i64 ((n : Int) + 1))).setCell ⟨(w.heap.size + 1), 5, none⟩ (Value.int .i64 S1)).setCell ⟨(w.heap.size + 1), 6, none⟩ (Value.int .i64 S2)).setCell ⟨(w.heap.size + 1), 7, none⟩ (Value.int .i64 S3)) := below_set (below_set (below_set (below_set hb1.out (Nat.le_succ _) 0 _) (Nat.le_succ _) 5 _) (Nat.le_succ _) 6 _) (Nat.le_succ _) 7 _
  have hs1 : ((((w1.setCell ⟨(w.heap.size + 1), 0, none⟩ (Value.int .i64 ((n : Int) + 1))).setCell ⟨(w.heap.size + 1), 5, none⟩ (Value.int .i64 S1)).setCell ⟨(w.heap.size + 1), 6, none⟩ (Value.int .i64 S2)).setCell ⟨(w.heap.size + 1), 7, none⟩ (Value.int .i64 S3)).heap.size = w1.heap.size := by simp [World.setCell]
  have d2 : ((((w1.setCell ⟨(w.heap.size + 1), 0, none⟩ (Value.int .i64 ((n : Int) + 1))).setCell ⟨(w.heap.size + 1), 5, none⟩ (Value.int .i64 S1)).setCell ⟨(w.heap.size + 1), 6, none⟩ (Value.int .i64 S2)).setCell ⟨(w.heap.size + 1), 7, none⟩ (Value.int .i64 S3)).cell? ⟨w.heap.size, 0, none⟩ = some (Value.slice A n c) := hd2.cell 0
  have d3 : (((((w1.setCell ⟨(w.heap.size + 1), 0, none⟩ (Value.int .i64 ((n : Int) + 1))).setCell ⟨(w.heap.size + 1), 5, none⟩ (Value.int .i64 S1)).setCell ⟨(w.heap.size + 1), 6, none⟩ (Value.int .i64 S2)).setCell ⟨(w.heap.size + 1), 7, none⟩ (Value.int .i64 S3)).alloc (.cells #[Value.slice none 0 0] 95)).cell? ⟨w.heap.size, 0, none⟩ = some (Value.slice A n c) := (hd2.alloc _).cell 0
  have hxn := Blk.new ((((w1.setCell ⟨(w.heap.size + 1), 0, none⟩ (Value.int .i64 ((n : Int) + 1))).setCell ⟨(w.heap.size + 1), 5, none⟩ (Value.int .i64 S1)).setCell ⟨(w.heap.size + 1), 6, none⟩ (Value.int .i64 S2)).setCell ⟨(w.heap.size + 1), 7, none⟩ (Value.int .i64 S3)) 95 #[Value.slice none 0 0]
  rw [hs1] at hxn
  have x3 : (((((w1.setCell ⟨(w.heap.size + 1), 0, none⟩ (Value.int .i64 ((n : Int) + 1))).setCell ⟨(w.heap.size + 1), 5, none⟩ (Value.int .i64 S1)).setCell ⟨(w.heap.size + 1), 6, none⟩ (Value.int .i64 S2)).setCell ⟨(w.heap.size + 1), 7, none⟩ (Value.int .i64 S3)).alloc (.cells #[Value.slice none 0 0] 95)).cell? ⟨w1.heap.size, 0, none⟩ = some (Value.slice none 0 0) := hxn.cell 0
  have hxm := hxn.alloc (.cells M 100)
  have x4 : ((((((w1.setCell ⟨(w.heap.size + 1), 0, none⟩ (Value.int .i64 ((n : Int) + 1))).setCell ⟨(w.heap.size + 1), 5, none⟩ (Value.int .i64 S1)).setCell ⟨(w.heap.size + 1), 6, none⟩ (Value.int .i64 S2)).setCell ⟨(w.heap.size + 1), 7, none⟩ (Value.int .i64 S3)).alloc (.cells #[Value.slice none 0 0] 95)).alloc (.cells M 100)).cell? ⟨w1.heap.size, 0, none⟩ = some (Value.slice none 0 0) := hxm.cell 0
  have xz4 : ((((((w1.setCell ⟨(w.heap.size + 1), 0, none⟩ (Value.int .i64 ((n : Int) + 1))).setCell ⟨(w.heap.size + 1), 5, none⟩ (Value.int .i64 S1)).setCell ⟨(w.heap.size + 1), 6, none⟩ (Value.int .i64 S2)).setCell ⟨(w.heap.size + 1), 7, none⟩ (Value.int .i64 S3)).alloc (.cells #[Value.slice none 0 0] 95)).alloc (.cells M 100)).frozen? ⟨w1.heap.size, 0, none⟩ = false := hxm.frozen 0
  have hmk := hmk0.out (((((w1.setCell ⟨(w.heap.size + 1), 0, none⟩ (Value.int .i64 ((n : Int) + 1))).setCell ⟨(w.heap.size + 1), 5, none⟩ (Value.int .i64 S1)).setCell ⟨(w.heap.size + 1), 6, none⟩ (Value.int .i64 S2)).setCell ⟨(w.heap.size + 1), 7, none⟩ (Value.int .i64 S3)).alloc (.cells #[Value.slice none 0 0] 95))
  have hs2 : (((((w1.setCell ⟨(w.heap.size + 1), 0, none⟩ (Value.int .i64 ((n : Int) + 1))).setCell ⟨(w.heap.size + 1), 5, none⟩ (Value.int .i64 S1)).setCell ⟨(w.heap.size + 1), 6, none⟩ (Value.int .i64 S2)).setCell ⟨(w.heap.size + 1), 7, none⟩ (Value.int .i64 S3)).alloc (.cells #[Value.slice none 0 0] 95)).heap.size = w1.heap.size + 1 := by simp [World.setCell]
  rw [hs2] at hmk
  have hs3 : (((((w1.setCell ⟨(w.heap.size + 1), 0, none⟩ (Value.int .i64 ((n : Int) + 1))).setCell ⟨(w.heap.size + 1), 5, none⟩ (Value.int .i64 S1)).setCell ⟨(w.heap.size + 1), 6, none⟩ (Value.int .i64 S2)).setCell ⟨(w.heap.size + 1), 7, none⟩ (Value.int .i64 S3)).alloc (.cells #[Value.slice (some ⟨(w1.heap.size + 1), 0, none⟩) 0 (n + 1)] 95)).heap.size = w1.heap.size + 1 := by simp [World.setCell]
  have hN0 := made_nil ivC_len 100 (((((w1.setCell ⟨(w.heap.size + 1), 0, none⟩ (Value.int .i64 ((n : Int) + 1))).setCell ⟨(w.heap.size + 1), 5, none⟩ (Value.int .i64 S1)).setCell ⟨(w.heap.size + 1), 6, none⟩ (Value.int .i64 S2)).setCell ⟨(w.heap.size + 1), 7, none⟩ (Value.int .i64 S3)).alloc (.cells #[Value.slice (some ⟨(w1.heap.size + 1), 0, none⟩) 0 (n + 1)] 95)) M (n + 1) hMs.out (by simp only [maxLen]; omega)
  rw [hs3] at hN0
  have hxx := Blk.new ((((w1.setCell ⟨(w.heap.size + 1), 0, none⟩ (Value.int .i64 ((n : Int) + 1))).setCell ⟨(w.heap.size + 1), 5, none⟩ (Value.int .i64 S1)).setCell ⟨(w.heap.size + 1), 6, none⟩ (Value.int .i64 S2)).setCell ⟨(w.heap.size + 1), 7, none⟩ (Value.int .i64 S3)) 95 #[Value.slice (some ⟨(w1.heap.size + 1), 0, none⟩) 0 (n + 1)]
  rw [hs1] at hxx
  have hxz : Hid (Blk ((((((w1.setCell ⟨(w.heap.size + 1), 0, none⟩ (Value.int .i64 ((n : Int) + 1))).setCell ⟨(w.heap.size + 1), 5, none⟩ (Value.int .i64 S1)).setCell ⟨(w.heap.size + 1), 6, none⟩ (Value.int .i64 S2)).setCell ⟨(w.heap.size + 1), 7, none⟩ (Value.int .i64 S3)).alloc (.cells #[Value.slice (some ⟨(w1.heap.size + 1), 0, none⟩) 0 (n + 1)] 95)).alloc (.cells M 100)) w1.heap.size 95 #[Value.slice (some ⟨(w1.heap.size + 1), 0, none⟩) 0 (n + 1)]) := hxx.alloc (.cells M 100)
  have hdz : Hid (Blk ((((((w1.setCell ⟨(w.heap.size + 1), 0, none⟩ (Value.int .i64 ((n : Int) + 1))).setCell ⟨(w.heap.size + 1), 5, none⟩ (Value.int .i64 S1)).setCell ⟨(w.heap.size + 1), 6, none⟩ (Value.int .i64 S2)).setCell ⟨(w.heap.size + 1), 7, none⟩ (Value.int .i64 S3)).alloc (.cells #[Value.slice (some ⟨(w1.heap.size + 1), 0, none⟩) 0 (n + 1)] 95)).alloc (.cells M 100)) w.heap.size 95 #[Value.slice A n c]) := (hd2.alloc (.cells #[Value.slice (some ⟨(w1.heap.size + 1), 0, none⟩) 0 (n + 1)] 95)).alloc (.cells M 100)
  have hyz : Hid (Blk ((((((w1.setCell ⟨(w.heap.size + 1), 0, none⟩ (Value.int .i64 ((n : Int) + 1))).setCell ⟨(w.heap.size + 1), 5, none⟩ (Value.int .i64 S1)).setCell ⟨(w.heap.size + 1), 6, none⟩ (Value.int .i64 S2)).setCell ⟨(w.heap.size + 1), 7, none⟩ (Value.int .i64 S3)).alloc (.cells #[Value.slice (some ⟨(w1.heap.size + 1), 0, none⟩) 0 (n + 1)] 95)).alloc (.cells M 100)) (w.heap.size + 1) 100 #[Value.int .i64 ((n : Int) + 1), Value.string cu, Value.string cr, Value.int .i64 t, Value.slice iA iN iC2, Value.int .i64 S1, Value.int .i64 S2, Value.int .i64 S3, Value.int .i64 cd]) := (hy2.alloc (.cells #[Value.slice (some ⟨(w1.heap.size + 1), 0, none⟩) 0 (n + 1)] 95)).alloc (.cells M 100)
  have hrz : Hid (Blk ((((((w1.setCell ⟨(w.heap.size + 1), 0, none⟩ (Value.int .i64 ((n : Int) + 1))).setCell ⟨(w.heap.size + 1), 5, none⟩ (Value.int .i64 S1)).setCell ⟨(w.heap.size + 1), 6, none⟩ (Value.int .i64 S2)).setCell ⟨(w.heap.size + 1), 7, none⟩ (Value.int .i64 S3)).alloc (.cells #[Value.slice (some ⟨(w1.heap.size + 1), 0, none⟩) 0 (n + 1)] 95)).alloc (.cells M 100)) (w.heap.size + 1 + 1) 57 #[Value.slice none 0 0]) := (hr2.alloc (.cells #[Value.slice (some ⟨(w1.heap.size + 1), 0, none⟩) 0 (n + 1)] 95)).alloc (.cells M 100)
  have hNz : Hid (LOwn ivC 9 100 ((((((w1.setCell ⟨(w.heap.size + 1), 0, none⟩ (Value.int .i64 ((n : Int) + 1))).setCell ⟨(w.heap.size + 1), 5, none⟩ (Value.int .i64 S1)).setCell ⟨(w.heap.size + 1), 6, none⟩ (Value.int .i64 S2)).setCell ⟨(w.heap.size + 1), 7, none⟩ (Value.int .i64 S3)).alloc (.cells #[Value.slice (some ⟨(w1.heap.size + 1), 0, none⟩) 0 (n + 1)] 95)).alloc (.cells M 100)) w.heap.size (Value.slice (some ⟨(w1.heap.size + 1), 0, none⟩) 0 (n + 1)) []) := hN0.mono (by omega)
  have hbz2 : Hid (Below w.heap.size w ((((((w1.setCell ⟨(w.heap.size + 1), 0, none⟩ (Value.int .i64 ((n : Int) + 1))).setCell ⟨(w.heap.size + 1), 5, none⟩ (Value.int .i64 S1)).setCell ⟨(w.heap.size + 1), 6, none⟩ (Value.int .i64 S2)).setCell ⟨(w.heap.size + 1), 7, none⟩ (Value.int .i64 S3)).alloc (.cells #[Value.slice (some ⟨(w1.heap.size + 1), 0, none⟩) 0 (n + 1)] 95)).alloc (.cells M 100))) := (hb2.alloc hb2.size _).alloc (by rw [hs3]; omega) _
  clear hd2 hr2 hy2 hb2 hs1 hxn hxm hs2 hs3 hxx hN0 hmk0 hd hy hr hb1
  go_wp2_with fail
  clear m0 mz0 m1 mz1 m2 mz2 m3 mz3 m4 mz4 m5 mz5 m6 mz6 m7 mz7 m8 mz8 d1 d2 d3 x3 x4 xz4 hmk
  generalize ((((((w1.setCell ⟨(w.heap.size + 1), 0, none⟩ (Value.int .i64 ((n : Int) + 1))).setCell ⟨(w.heap.size + 1), 5, none⟩ (Value.int .i64 S1)).setCell ⟨(w.heap.size + 1), 6, none⟩ (Value.int .i64 S2)).setCell ⟨(w.heap.size + 1), 7, none⟩ (Value.int .i64 S3)).alloc (.cells #[Value.slice (some ⟨(w1.heap.size + 1), 0, none⟩) 0 (n + 1)] 95)).alloc (.cells M 100)) = wB at *
  obtain ⟨gx, hgx⟩ : ∃ gx, gx = w1.heap.size := ⟨_, rfl⟩
  obtain ⟨gm, hgm0⟩ : ∃ gm, gm = w1.heap.size + 1 := ⟨_, rfl⟩
  obtain ⟨gd, hgd⟩ : ∃ gd, gd = w.heap.size := ⟨_, rfl⟩
  obtain ⟨gv, hgv⟩ : ∃ gv, gv = w.heap.size + 1 := ⟨_, rfl⟩
  obtain ⟨gR, hgR⟩ : ∃ gR, gR = w.heap.size + 1 + 1 := ⟨_, rfl⟩
  have hgxm : Hid (gx ≠ gm) := by show gx ≠ gm; omega
  have hgRm : Hid (gR ≠ gm) := by show gR ≠ gm; omega
  have hgxR : Hid (gx ≠ gR) := by show gx ≠ gR; omega
  have hgmw : Hid (w.heap.size ≤ gm) := by show w.heap.size ≤ gm; omega
  have hgxw : Hid (w.heap.size ≤ gx) := by show w.heap.size ≤ gx; omega
  have hgRw : Hid (w.heap.size ≤ gR) := by show w.heap.size ≤ gR; omega
  rw [← hgm0, ← hgx] at hxz
  rw [← hgm0] at hNz
  have hdz : Hid (Blk wB gd 95 #[Value.slice A n c]) := by rw [hgd]; exact hdz.out
  have hyz : Hid (Blk wB gv 100 #[Value.int .i64 ((n : Int) + 1), Value.string cu, Value.string cr, Value.int .i64 t, Value.slice iA iN iC2, Value.int .i64 S1, Value.int .i64 S2, Value.int .i64 S3, Value.int .i64 cd]) := by rw [hgv]; exact hyz.out
  have hrz : Hid (Blk wB gR 57 #[Value.slice none 0 0]) := by rw [hgR]; exact hrz.out
  rw [← hgm0, ← hgx, ← hgR, ← hgv, ← hgd]
  have hgm : Hid (gm < wB.heap.size) := (own_lt hNz.out rfl).2
  have hbz : Hid (w.heap.size ≤ wB.heap.size) := hbz2.out.size
  replace hgx := Lib.hid hgx
  replace hgm0 := Lib.hid hgm0
  replace hgd := Lib.hid hgd
  replace hgv := Lib.hid hgv
  replace hgR := Lib.hid hgR
  have hL : Hid (LAt ivC 9 wB wB.heap.size A n L) := hL0.out.more hbz2.out
  have hx := hxz
  have hr := hrz
  have hN := hNz
  have hb := hbz2
  have hd := hdz
  have hy := hyz
  clear hw1 hxz hrz hNz hbz2 hdz hyz
  have hcd : Hid (∀ wz, Below wB.heap.size wB wz → wz.cell? ⟨gd, 0, none⟩ = some (Value.slice A n c)) := fun wz hz => by
    have q := hd.out.below hz hd.out.lt
    exact q.cell 0
  have hcv : Hid (∀ wz, Below wB.heap.size wB wz → wz.cell? ⟨gv, 0, none⟩ = some (Value.int .i64 ((n : Int) + 1)) ∧ wz.cell? ⟨gv, 1, none⟩ = some (Value.string cu) ∧ wz.cell? ⟨gv, 2, none⟩ = some (Value.string cr) ∧ wz.cell? ⟨gv, 3, none⟩ = some (Value.int .i64 t) ∧ wz.cell? ⟨gv, 4, none⟩ = some (Value.slice iA iN iC2) ∧ wz.cell? ⟨gv, 5, none⟩ = some (Value.int .i64 S1) ∧ wz.cell? ⟨gv, 6, none⟩ = some (Value.int .i64 S2) ∧ wz.cell? ⟨gv, 7, none⟩ = some (Value.int .i64 S3) ∧ wz.cell? ⟨gv, 8, none⟩ = some (Value.int .i64 cd)) := fun wz hz => by
    have q := hy.out.below hz hy.out.lt
    exact ⟨q.cell 0, q.cell 1, q.cell 2, q.cell 3, q.cell 4, q.cell 5, q.cell 6, q.cell 7, q.cell 8⟩
  refine RM.region [] [] (F := F22 gd gv wB.heap.size n c A #[Value.int .i64 ((n : Int) + 1), Value.string cu, Value.string cr, Value.int .i64 t, Value.slice iA iN iC2, Value.int .i64 S1, Value.int .i64 S2, Value.int .i64 S3, Value.int .i64 cd] X) (W := fun wz => Below wB.heap.size wB wz) (R := fun _ => Rb) (S := noS) (G := noG) rfl F22_more (fun _ _ _ _ _ _ _ => trivial) (fun _ _ _ _ _ h => h.elim) (fun _ _ _ _ _ h => h.elim) (by kernel_rfl) (by kernel_rfl) (by kernel_rfl) (by kernel_rfl) (by kernel_rfl) ?_ ?_ ?_ (by kernel_rfl) ?_
  · exact (Below.refl _ _).drew
  · intro t ht
    unfold F22
    split <;> first | trivial | exact rfl | (exact absurd ht (by decide))
  · simp only [List.forall_mem_cons, List.not_mem_nil, false_implies, implies_true, and_true]
    refine ⟨?_, ?_, ?_, ?_, ?_, ?_, ?_, ?_, ?_, ?_, ?_, ?_, ?_, ?_, ?_, ?_, ?_⟩
    · intro a w2 hw _ hf K hK
      have f0 := hf 2 rfl
      simp only [F22] at f0
      clear hf
      have d0 := hcd.out w2 hw
      go_simp
      exact hK _ _ _ rfl rfl hw (Below.refl _ _) (fun h => absurd h (by decide))
    · intro a w2 hw _ hf K hK
      have f0 := hf 47 rfl
      simp only [F22] at f0
      clear hf
      have d0 := hcd.out w2 hw
      go_simp
      exact hK _ _ _ rfl rfl hw (Below.refl _ _) (fun h => absurd h (by decide))
    · intro a w2 hw _ hf K hK
      have f0 := hf 48 rfl
      simp only [F22] at f0
      clear hf
      have d0 := hcd.out w2 hw
      go_simp
      exact hK _ _ _ rfl rfl hw (Below.refl _ _) (fun h => absurd h (by decide))
    · intro a w2 hw _ hf K hK
      have f0 := hf 2 rfl
      simp only [F22] at f0
      clear hf
      have d0 := hcd.out w2 hw
      go_simp
      exact hK _ _ _ rfl rfl hw (Below.refl _ _) (fun h => absurd h (by decide))
    · intro a w2 hw _ hf K hK
      have f0 := hf 50 rfl
      simp only [F22] at f0
      clear hf
      have d0 := hcd.out w2 hw
      go_simp
      exact hK _ _ _ rfl rfl hw (Below.refl _ _) (fun h => absurd h (by decide))
    · intro a w2 hw _ hf K hK
      have f0 := hf 51 rfl
      simp only [F22] at f0
      clear hf
      have d0 := hcd.out w2 hw
      go_simp
      exact hK _ _ _ rfl rfl hw (Below.refl _ _) (fun h => absurd h (by decide))
    · intro a w2 hw _ hf K hK
      have f0 := hf 52 rfl
      simp only [F22] at f0
      clear hf
      go_simp
      exact hK _ _ _ rfl rfl hw (Below.refl _ _) (fun h => absurd h (by decide))
    · intro a w2 hw _ hf K hK
      have f0 := hf 2 rfl
      simp only [F22] at f0
      clear hf
      have d0 := hcd.out w2 hw
      go_simp
      exact hK _ _ _ rfl rfl hw (Below.refl _ _) (fun h => absurd h (by decide))
    · intro a w2 hw _ hf K hK
      have f0 := hf 54 rfl
      simp only [F22] at f0
      clear hf
      have d0 := hcd.out w2 hw
      go_simp
      exact hK _ _ _ rfl rfl hw (Below.refl _ _) (fun h => absurd h (by decide))
    · intro a w2 hw _ hf K hK
      have f0 := hf 55 rfl
      simp only [F22] at f0
      clear hf
      have d0 := hcd.out w2 hw
      go_simp
      exact hK _ _ _ rfl rfl hw (Below.refl _ _) (fun h => absurd h (by decide))
    · intro a w2 hw _ hf K hK
      have f0 := hf 56 rfl
      simp only [F22] at f0
      clear hf
      go_simp
      exact hK _ _ _ rfl rfl hw (Below.refl _ _) (fun h => absurd h (by decide))
    · intro a w2 hw _ hf K hK
      have f0 := hf 49 rfl
      have f1 := hf 53 rfl
      have f2 := hf 57 rfl
      simp only [F22] at f0 f1 f2
      clear hf
      have hnc := hcap.out
      have hn0 : (0 : Int) ≤ n := by omega
      have hncI : (n : Int) ≤ c := by omega
      go_simp
      exact hK _ _ _ rfl rfl hw (Below.refl _ _) (fun h => absurd h (by decide))
    · intro a w2 hw _ hf K hK
      have f0 := hf 3 rfl
      simp only [F22] at f0
      clear hf
      obtain ⟨v0, v1, v2, v3, v4, v5, v6, v7, v8⟩ := hcv.out w2 hw
      go_simp
      exact hK _ _ _ rfl rfl hw (Below.refl _ _) (fun h => absurd h (by decide))
    · intro a w2 hw _ hf K hK
      have f0 := hf 59 rfl
      simp only [F22] at f0
      clear hf
      go_simp
      exact hK _ _ _ rfl ⟨w2.heap.size, rfl, hw.size, Blk.new w2 100 _⟩ (below_new hw _) (a1 _ _) (fun h => absurd h (by decide))
    · intro a w2 hw _ hf K hK
      have f0 := hf 58 rfl
      have f1 := hf 60 rfl
      simp only [F22] at f0 f1
      clear hf
      obtain ⟨g4, e4, hbg4, hbk4⟩ := f1
      refine wp_append_full (ys := [(⟨(n : Int) + 1, cu, cr, t, iA, iN, iC2, its, S1, S2, S3, cd⟩ : Im)]) w2 (.tmp 58) (.tmp 60) 55 rfl 100 i45 _ 9 104 Tryd.underlying55 hi45.out hz450.out hz451.out hz452.out rfl w2.heap.size A n ((eval_tmpi a 58).trans f0) (hL.out.more hw) w2.heap.size (some ⟨g4, 0, none⟩) 1 1 ((eval_tmpi a 60).trans e4) (lat_blk ivC_len hbk4 [(⟨(n : Int) + 1, cu, cr, t, iA, iN, iC2, its, S1, S2, S3, cd⟩ : Im)] 1 rfl (by simp [flat, ivC])).2 rfl (by omega) (by simp only [maxLen]; have := hn255.out; omega) (by have := hn255.out; omega) ?_
      intro v' w' hown hbl
      exact hK _ _ _ rfl (by rw [hX.out]; exact hown.mono hw.size) (hw.trans (hbl.mono hw.size)) hbl (fun h => absurd h (by decide))
    · intro a w2 hw _ hf K hK
      have f0 := hf 61 rfl
      simp only [F22] at f0
      clear hf
      obtain ⟨A9, c9, e9, -⟩ := f0.form
      rw [hXl.out] at e9
      clear f0
      go_simp
      exact hK _ _ _ rfl rfl hw (Below.refl _ _) (fun h => absurd h (by decide))
    · intro a w2 hw _ hf K hK
      clear hf
      go_simp
      exact hK _ _ _ rfl rfl hw (Below.refl _ _) (fun h => absurd h (by decide))
  · intro a' w9 hd hs hw hout hf _
    have h61 := hf 61 rfl
    simp only [F22] at h61
    have h62 := hf 62 rfl
    simp only [F22] at h62
    have h63 := hf 63 rfl
    simp only [F22] at h63
    have e0 : _ = some (_) := hout 0 rfl
    have e1 : _ = some (_) := hout 1 rfl
    have e2 : _ = some (_) := hout 2 rfl
    have e3 : _ = some (_) := hout 3 rfl
    have e4 : _ = some (_) := hout 4 rfl
    have e5 : _ = some (_) := hout 5 rfl
    have e6 : _ = some (_) := hout 6 rfl
    have e7 : _ = some (_) := hout 7 rfl
    have e8 : _ = some (_) := hout 8 rfl
    have e9 : _ = some (_) := hout 9 rfl
    have e10 : _ = some (_) := hout 10 rfl
    have e11 : _ = some (_) := hout 11 rfl
    have e12 : _ = some (_) := hout 12 rfl
    have e13 : _ = some (_) := hout 13 rfl
    have e14 : _ = some (_) := hout 14 rfl
    have e15 : _ = some (_) := hout 15 rfl
    have e16 : _ = some (_) := hout 16 rfl
    have e17 : _ = some (_) := hout 17 rfl
    have e18 : _ = some (_) := hout 18 rfl
    have e19 : _ = some (_) := hout 19 rfl
    have e20 : _ = some (_) := hout 20 rfl
    have e21 : _ = some (_) := hout 21 rfl
    have e22 : _ = some (_) := hout 22 rfl
    have e23 : _ = some (_) := hout 23 rfl
    have e24 : _ = some (_) := hout 24 rfl
    have e25 : _ = some (_) := hout 25 rfl
    have e26 : _ = some (_) := hout 26 rfl
    have e27 : _ = some (_) := hout 27 rfl
    have e28 : _ = some (_) := hout 28 rfl
    have e29 : _ = some (_) := hout 29 rfl
    have e30 : _ = some (_) := hout 30 rfl
    have e31 : _ = some (_) := hout 31 rfl
    have e32 : _ = some (_) := hout 32 rfl
    have e33 : _ = some (_) := hout 33 rfl
    have e34 : _ = some (_) := hout 34 rfl
    have e35 : _ = some (_) := hout 35 rfl
    have e36 : _ = some (_) := hout 36 rfl
    have e37 : _ = some (_) := hout 37 rfl
    have e38 : _ = some (_) := hout 38 rfl
    have e39 : _ = some (_) := hout 39 rfl
    have e40 : _ = some (_) := hout 40 rfl
    have e41 : _ = some (_) := hout 41 rfl
    have e42 : _ = some (_) := hout 42 rfl
    have e43 : _ = some (_) := hout 43 rfl
    have e44 : _ = some (_) := hout 44 rfl
    have e45 : _ = some (_) := hout 45 rfl
    have e46 : _ = some (_) := hout 46 rfl
    have e64 : _ = some (_) := hout 64 rfl
    have e65 : _ = some (_) := hout 65 rfl
    have e66 : _ = some (_) := hout 66 rfl
    have e67 : _ = some (_) := hout 67 rfl
    have e68 : _ = some (_) := hout 68 rfl
    have e69 : _ = some (_) := hout 69 rfl
    have e70 : _ = some (_) := hout 70 rfl
    have e71 : _ = some (_) := hout 71 rfl
    have e72 : _ = some (_) := hout 72 rfl
    have e73 : _ = some (_) := hout 73 rfl
    have e74 : _ = some (_) := hout 74 rfl
    have e75 : _ = some (_) := hout 75 rfl
    have e76 : _ = some (_) := hout 76 rfl
    have e77 : _ = some (_) := hout 77 rfl
    have e78 : _ = some (_) := hout 78 rfl
    have e79 : _ = some (_) := hout 79 rfl
    have e80 : _ = some (_) := hout 80 rfl
    have e81 : _ = some (_) := hout 81 rfl
    obtain ⟨tm, df⟩ := a'
    simp only at hd hs h61 h62 h63 e0 e1 e2 e3 e4 e5 e6 e7 e8 e9 e10 e11 e12 e13 e14 e15 e16 e17 e18 e19 e20 e21 e22 e23 e24 e25 e26 e27 e28 e29 e30 e31 e32 e33 e34 e35 e36 e37 e38 e39 e40 e41 e42 e43 e44 e45 e46 e64 e65 e66 e67 e68 e69 e70 e71 e72 e73 e74 e75 e76 e77 e78 e79 e80 e81
    have e := F22_lit tm hs
    simp only [h62, h63, e0, e1, e2, e3, e4, e5, e6, e7, e8, e9, e10, e11, e12, e13, e14, e15, e16, e17, e18, e19, e20, e21, e22, e23, e24, e25, e26, e27, e28, e29, e30, e31, e32, e33, e34, e35, e36, e37, e38, e39, e40, e41, e42, e43, e44, e45, e46, e64, e65, e66, e67, e68, e69, e70, e71, e72, e73, e74, e75, e76, e77, e78, e79, e80, e81, Option.getD_some] at e
    clear hf hout hs
    rw [e, hd]
    clear e hd h62 h63 e0 e1 e2 e3 e4 e5 e6 e7 e8 e9 e10 e11 e12 e13 e14 e15 e16 e17 e18 e19 e20 e21 e22 e23 e24 e25 e26 e27 e28 e29 e30 e31 e32 e33 e34 e35 e36 e37 e38 e39 e40 e41 e42 e43 e44 e45 e46 e64 e65 e66 e67 e68 e69 e70 e71 e72 e73 e74 e75 e76 e77 e78 e79 e80 e81
    generalize tm[61]?.getD undef = u61x at h61 ⊢
    generalize tm[47]?.getD undef = u47x, tm[48]?.getD undef = u48x, tm[49]?.getD undef = u49x, tm[50]?.getD undef = u50x, tm[51]?.getD undef = u51x, tm[52]?.getD undef = u52x, tm[53]?.getD undef = u53x, tm[54]?.getD undef = u54x, tm[55]?.getD undef = u55x, tm[56]?.getD undef = u56x, tm[57]?.getD undef = u57x, tm[58]?.getD undef = u58x, tm[59]?.getD undef = u59x, tm[60]?.getD undef = u60x
    obtain ⟨A9, c9, e9, -, -, -, -⟩ := h61.form
    rw [hXl.out] at e9
    subst e9
    have hRA0 := h61
    have hap : Hid (∀ g, (Value.slice A9 (n + 1) c9).ownBlock = some g → gm < g) := fun g e => Nat.lt_of_lt_of_le hgm.out (own_lt h61 e).1
    have hd0 := Lib.hid hRA0
    have hX0 := Lib.hid (hx.out.below hw hx.out.lt)
    have hR0 := Lib.hid (hr.out.below hw hr.out.lt)
    have hN0 := Lib.hid (hN.out.kept hw)
    have hb0 := Lib.hid (hb.out.trans (hw.mono hb.out.size))
    clear h61 hRA0 hw hcd hcv hL hx hr hN hb hd hy hcap
    go_wp2_with fail
    go_loopw [63] (fun i wr => ∃ (k : Nat) (Lk : List Im), k ≤ n + 1 ∧ i = .int .i64 k ∧ Hid (Lk.map Im.val = (X.map Im.val).take k) ∧ Hid (LOwn ivC 9 100 wr w.heap.size (Value.slice (some ⟨gm, 0, none⟩) k (n + 1)) Lk) ∧ Hid (∀ x ∈ Lk, NewI wr w.heap.size x) ∧ Hid (Blk wr gx 95 #[Value.slice (some ⟨gm, 0, none⟩) k (n + 1)]) ∧ Hid (Blk wr gR 57 #[Value.slice none 0 0]) ∧ Hid (LOwn ivC 9 100 wr w.heap.size (Value.slice A9 (n + 1) c9) X) ∧ Hid (Below w.heap.size w wr)) (fun i _ => n + 1 - (intOf i).toNat)
    case atStart => exact ⟨0, [], Nat.zero_le _, rfl, Lib.hid (by simp), hN0.out, Lib.hid (fun x hx => by cases hx), hX0.out, hR0.out, hd0.out.mono hbz.out, hb0.out⟩
    case round =>
      clear hd0 hX0 hR0 hN0 hb0
      obtain ⟨k, Lk, hkn, rfl, hval, hN, hni, hx, hr, hRA, hb⟩ := hrel
      by_cases hlt : k < n + 1
      · have hk0 : (0 : Int) ≤ k := by omega
        have hk1 : (k : Int) < (n : Int) + 1 := by omega
        have hkX : k < X.length := by rw [hXl.out]; exact hlt
        obtain ⟨ad, hA, -, e0, e1, e2, e3, e4, e5, e6, e7, e8⟩ := iv_cells hRA.out.lat hlt
        have hxI := (hXI.out _ (List.getElem_mem hkX))
        have hxs := (hXs.out _ (List.getElem_mem hkX))
        have hst : Hid ((X.map Im.val).take (k + 1) = (X.map Im.val).take k ++ [X[k].val]) := by
          show _ = _
          rw [List.take_succ_eq_append_getElem (by rw [List.length_map]; exact hkX), List.getElem_map]
        generalize X[k] = x at *
        obtain ⟨xnum, xcu, xcr, xat, xA, xn, xc, xits, xnet, xvat, xgr, xcd⟩ := x
        simp only [Im.val] at e0 e1 e2 e3 e4 e5 e6 e7 e8 hxs hst
        subst hA
        have hxn : xits.length = xn := hxI.1.len
        have hxn64 : xn ≤ 64 := by omega
        have hlk : k = Lk.length := by
          have := congrArg List.length hval.out
          rw [List.length_map, List.length_take, List.length_map, hXl.out] at this
          omega
        replace hlk := Lib.hid hlk
        have hbE := a1 wr (.cells #[Value.int .i64 xnum, Value.string xcu, Value.string xcr, Value.int .i64 xat, Value.slice xA xn xc, Value.int .i64 xnet, Value.int .i64 xvat, Value.int .i64 xgr, Value.int .i64 xcd] 100)
        have hyE := Blk.new wr 100 #[Value.int .i64 xnum, Value.string xcu, Value.string xcr, Value.int .i64 xat, Value.slice xA xn xc, Value.int .i64 xnet, Value.int .i64 xvat, Value.int .i64 xgr, Value.int .i64 xcd]
        obtain ⟨m0, m1, m2, m3, m4, m5, m6, m7, m8⟩ := cells9 ((wr.alloc (.cells #[Value.int .i64 xnum, Value.string xcu, Value.string xcr, Value.int .i64 xat, Value.slice xA xn xc, Value.int .i64 xnet, Value.int .i64 xvat, Value.int .i64 xgr, Value.int .i64 xcd] 100))) (wr.heap.size) (Value.int .i64 xnum) (Value.string xcu) (Value.string xcr) (Value.int .i64 xat) (Value.slice xA xn xc) (Value.int .i64 xnet) (Value.int .i64 xvat) (Value.int .i64 xgr) (Value.int .i64 xcd) (hyE)
        have hitr : Hid (Reads (wr.alloc (.cells #[Value.int .i64 xnum, Value.string xcu, Value.string xcr, Value.int .i64 xat, Value.slice xA xn xc, Value.int .i64 xnet, Value.int .i64 xvat, Value.int .i64 xgr, Value.int .i64 xcd] 100)) (wr.alloc (.cells #[Value.int .i64 xnum, Value.string xcu, Value.string xcr, Value.int .i64 xat, Value.slice xA xn xc, Value.int .i64 xnet, Value.int .i64 xvat, Value.int .i64 xgr, Value.int .i64 xcd] 100)).heap.size 7 xA xn (flat itC xits)) := (hxI.1.more (hb.out.trans (hbE.mono hb.out.size))).2
        have hgxl : gx < wr.heap.size := hx.out.lt
        have hgRl : gR < wr.heap.size := hr.out.lt
        have hgml : gm < wr.heap.size := (own_lt hN.out rfl).2
        have hsz := hb.out.size
        replace hyE := Lib.hid hyE
        replace hbE := Lib.hid hbE
        replace hxI := Lib.hid hxI
        replace hxs := Lib.hid hxs
        go_wp2_with (first | (
                     at_builtin; refine wpList_append_any _ rfl (.const (Value.slice none 0 0)) (.tmp 68) _ rfl w.heap.size 90 i39 _ 7 56 Tryd.underlying52 hi39.out hz390.out hz391.out hz392.out rfl (by omega) (Value.slice none 0 0) 0 [] rfl ⟨by simp, .inl ⟨rfl, rfl⟩⟩ (wr.alloc (.cells #[Value.int .i64 xnum, Value.string xcu, Value.string xcr, Value.int .i64 xat, Value.slice xA xn xc, Value.int .i64 xnet, Value.int .i64 xvat, Value.int .i64 xgr, Value.int .i64 xcd] 100)).heap.size xA xn xc (flat itC xits) rfl hitr.out (itC_one _) (by simp only [maxLen]; omega) (by omega) (by simp; omega) ?_
                     intro v' w1 hown1 hg1 hat1
                     rw [Nat.zero_add, List.nil_append] at hown1
                     have hnew : LOwn itC 7 90 w1 w.heap.size v' xits := ⟨itC_len, by rw [hxn]; exact hown1⟩
                     have hb1 : Below wr.heap.size wr w1 := hbE.out.trans (((Below.refl _ _).grown hg1 (Nat.le_refl _) (fun k hk => by simp [Value.ownBlock] at hk)).mono (by simp))
                     have hbE1 : Below (wr.alloc (.cells #[Value.int .i64 xnum, Value.string xcu, Value.string xcr, Value.int .i64 xat, Value.slice xA xn xc, Value.int .i64 xnet, Value.int .i64 xvat, Value.int .i64 xgr, Value.int .i64 xcd] 100)).heap.size (wr.alloc (.cells #[Value.int .i64 xnum, Value.string xcu, Value.string xcr, Value.int .i64 xat, Value.slice xA xn xc, Value.int .i64 xnet, Value.int .i64 xvat, Value.int .i64 xgr, Value.int .i64 xcd] 100)) w1 := (Below.refl _ _).grown hg1 (Nat.le_refl _) (fun k hk => by simp [Value.ownBlock] at hk)
                     have hy1 := hyE.out.below hbE1 hyE.out.lt
                     obtain ⟨A7, c7, hv7, -, -, -, -⟩ := hnew.form
                     rw [hxn] at hv7
                     subst hv7
                     have hbw1 : Below w.heap.size w w1 := hb.out.trans (hb1.mono hb.out.size)
                     have hx1 := hx.out.below hb1 hgxl
                     have hr1 := hr.out.below hb1 hgRl
                     have hN1 := hN.out.kept hb1
                     have hRA1 := hRA.out.kept hb1
                     have hni1 : ∀ x ∈ Lk, NewI w1 w.heap.size x := fun x hx => LOwn.kept (hni.out x hx) hb1
                     have hgs : w1.grownBy (w1.setCell ⟨wr.heap.size, 4, none⟩ (Value.slice A7 xn c7)) (some wr.heap.size) := only_set (World.grownBy.refl _ _) 4 _
                     have hy2 : Blk (w1.setCell ⟨wr.heap.size, 4, none⟩ (Value.slice A7 xn c7)) wr.heap.size 100 #[Value.int .i64 xnum, Value.string xcu, Value.string xcr, Value.int .i64 xat, Value.slice A7 xn c7, Value.int .i64 xnet, Value.int .i64 xvat, Value.int .i64 xgr, Value.int .i64 xcd] := hy1.set_ 4 (Value.slice A7 xn c7)
                     have hx2 := hx1.grown hgs (by intro e; injection e with e; omega)
                     have hr2 := hr1.grown hgs (by intro e; injection e with e; omega)
                     have hN2 := hN1.apart hgs (fun g e1 e2 => by injection e2 with e2; have e3 : gm = g := Option.some.inj e1; omega)
                     have hRA2 := hRA1.apart hgs (fun g e1 e2 => by injection e2 with e2; have := (own_lt hRA.out e1).2; omega)
                     have hni2 : ∀ x ∈ Lk, NewI (w1.setCell ⟨wr.heap.size, 4, none⟩ (Value.slice A7 xn c7)) w.heap.size x := fun x hx => LOwn.grownB (hni1 x hx) hy1 (by decide) hgs
                     have hnew2 := hnew.grownB hy1 (by decide) hgs
                     have hbw2 : Below w.heap.size w (w1.setCell ⟨wr.heap.size, 4, none⟩ (Value.slice A7 xn c7)) := hbw1.grown hgs hbw1.size (fun g8 e8 => by injection e8 with e8; omega)
                     have hx3 := Lib.hid (hx2.alloc (.cells #[Value.int .i64 xnum, Value.string xcu, Value.string xcr, Value.int .i64 xat, Value.slice A7 xn c7, Value.int .i64 xnet, Value.int .i64 xvat, Value.int .i64 xgr, Value.int .i64 xcd] 100))
                     have hr3 := Lib.hid (hr2.alloc (.cells #[Value.int .i64 xnum, Value.string xcu, Value.string xcr, Value.int .i64 xat, Value.slice A7 xn c7, Value.int .i64 xnet, Value.int .i64 xvat, Value.int .i64 xgr, Value.int .i64 xcd] 100))
                     have hN3 := Lib.hid (hN2.alloc (.cells #[Value.int .i64 xnum, Value.string xcu, Value.string xcr, Value.int .i64 xat, Value.slice A7 xn c7, Value.int .i64 xnet, Value.int .i64 xvat, Value.int .i64 xgr, Value.int .i64 xcd] 100))
                     have hRA3 := Lib.hid (hRA2.alloc (.cells #[Value.int .i64 xnum, Value.string xcu, Value.string xcr, Value.int .i64 xat, Value.slice A7 xn c7, Value.int .i64 xnet, Value.int .i64 xvat, Value.int .i64 xgr, Value.int .i64 xcd] 100))
                     have hni3 : Hid (∀ x ∈ Lk, NewI ((w1.setCell ⟨wr.heap.size, 4, none⟩ (Value.slice A7 xn c7)).alloc (.cells #[Value.int .i64 xnum, Value.string xcu, Value.string xcr, Value.int .i64 xat, Value.slice A7 xn c7, Value.int .i64 xnet, Value.int .i64 xvat, Value.int .i64 xgr, Value.int .i64 xcd] 100)) w.heap.size x) := fun x hx => LOwn.alloc (hni2 x hx) _
                     have hnew3 := Lib.hid (hnew2.alloc (.cells #[Value.int .i64 xnum, Value.string xcu, Value.string xcr, Value.int .i64 xat, Value.slice A7 xn c7, Value.int .i64 xnet, Value.int .i64 xvat, Value.int .i64 xgr, Value.int .i64 xcd] 100))
                     have hbw3 : Hid (Below w.heap.size w ((w1.setCell ⟨wr.heap.size, 4, none⟩ (Value.slice A7 xn c7)).alloc (.cells #[Value.int .i64 xnum, Value.string xcu, Value.string xcr, Value.int .i64 xat, Value.slice A7 xn c7, Value.int .i64 xnet, Value.int .i64 xvat, Value.int .i64 xgr, Value.int .i64 xcd] 100))) := hbw2.alloc hbw2.size _
                     have hrd0 := (lit_at (e := 100) ivC_len (w1.setCell ⟨wr.heap.size, 4, none⟩ (Value.slice A7 xn c7)) [(⟨xnum, xcu, xcr, xat, A7, xn, c7, xits, xnet, xvat, xgr, xcd⟩ : Im)] #[Value.int .i64 xnum, Value.string xcu, Value.string xcr, Value.int .i64 xat, Value.slice A7 xn c7, Value.int .i64 xnet, Value.int .i64 xvat, Value.int .i64 xgr, Value.int .i64 xcd] (by simp [flat, ivC])).2
                     rw [show (w1.setCell ⟨wr.heap.size, 4, none⟩ (Value.slice A7 xn c7)).heap.size = w1.heap.size by simp [World.setCell]] at hrd0
                     have hrd := Lib.hid hrd0
                     have hw1l := hb1.size
                     obtain ⟨p0, p1, p2, p3, p4, p5, p6, p7, p8, pz0, pz1, pz2, pz3, pz4, pz5, pz6, pz7, pz8⟩ := cells9z (w1) (wr.heap.size) (Value.int .i64 xnum) (Value.string xcu) (Value.string xcr) (Value.int .i64 xat) (Value.slice xA xn xc) (Value.int .i64 xnet) (Value.int .i64 xvat) (Value.int .i64 xgr) (Value.int .i64 xcd) (hy1)
                     have x2 : (w1.setCell ⟨wr.heap.size, 4, none⟩ (Value.slice A7 xn c7)).cell? ⟨gx, 0, none⟩ = some (Value.slice (some ⟨gm, 0, none⟩) k (n + 1)) := hx2.cell 0
                     obtain ⟨q0, q1, q2, q3, q4, q5, q6, q7, q8⟩ := cells9 ((w1.setCell ⟨wr.heap.size, 4, none⟩ (Value.slice A7 xn c7))) (wr.heap.size) (Value.int .i64 xnum) (Value.string xcu) (Value.string xcr) (Value.int .i64 xat) (Value.slice A7 xn c7) (Value.int .i64 xnet) (Value.int .i64 xvat) (Value.int .i64 xgr) (Value.int .i64 xcd) (hy2)
                     clear hown1 hg1 hat1 hnew hb1 hbE1 hy1 hx1 hr1 hN1 hRA1 hni1 hgs hy2 hx2 hr2 hN2 hRA2 hni2 hnew2 hbw2 hrd0 hbw1) | (
                     at_builtin; refine wpList_append_in _ rfl (.tmp 73) (.tmp 75) _ rfl w.heap.size 100 i45 9 Tryd.underlying55 hi45.out hz451.out gm k (n + 1) rfl hN3.out hlk.out _ (some ⟨w1.heap.size, 0, none⟩) 1 1 rfl hrd.out rfl (ivC_one _) (by omega) ?_
                     intro w4 hown2 hg2
                     have hx4 := Lib.hid (hx3.out.grown hg2 (by intro e; injection e with e; exact hgxm.out e))
                     have hr4 := Lib.hid (hr3.out.grown hg2 (by intro e; injection e with e; exact hgRm.out e))
                     have hRA4 := Lib.hid (hRA3.out.apart hg2 (fun g e1 e2 => by injection e2 with e2; have := hap.out g e1; omega))
                     have hni4 : Hid (∀ x ∈ Lk, NewI w4 w.heap.size x) := fun x hx => LOwn.grownT (hni3.out x hx) hN3.out (by decide) hg2
                     have hnew4 := Lib.hid (LOwn.grownT hnew3.out hN3.out (by decide) hg2)
                     have hbw4 : Hid (Below w.heap.size w w4) := hbw3.out.grown hg2 hbw3.out.size (fun g8 e8 => by injection e8 with e8; have := hgmw.out; omega)
                     have hN4 := Lib.hid hown2
                     have x0 : (w4).cell? ⟨gx, 0, none⟩ = some (Value.slice (some ⟨gm, 0, none⟩) k (n + 1)) := (hx4.out).cell 0; have xz0 : (w4).frozen? ⟨gx, 0, none⟩ = false := (hx4.out).frozen 0
                     clear hown2 hg2))
        have hgs4 : w4.grownBy (w4.setCell ⟨gx, 0, none⟩ (Value.slice (some ⟨gm, 0, none⟩) (k + 1) (n + 1))) (some gx) := only_set (World.grownBy.refl _ _) 0 _
        go_roundw
        case rel =>
          refine ⟨k + 1, Lk ++ [(⟨xnum, xcu, xcr, xat, A7, xn, c7, xits, xnet, xvat, xgr, xcd⟩ : Im)], by omega, by go_num, ?_, hN4.out.apart hgs4 (fun g e1 e2 => by injection e2 with e2; have e3 : gm = g := Option.some.inj e1; exact hgxm.out (by omega)), fun x hx => ?_, hx4.out.set_ 0 _, hr4.out.grown hgs4 (by intro e; injection e with e; exact hgxR.out e.symm), hRA4.out.grownB hx4.out (by decide) hgs4, hbw4.out.grown hgs4 hbw4.out.size (fun g8 e8 => by injection e8 with e8; have := hgxw.out; omega)⟩
          · show _ = _
            rw [List.map_append, hval.out, hst.out]
            rfl
          · rcases List.mem_append.1 hx with h1 | h1
            · exact LOwn.grownB (hni4.out x h1) hx4.out (by decide) hgs4
            · rw [List.mem_singleton.1 h1]
              exact LOwn.grownB hnew4.out hx4.out (by decide) hgs4
        case measure => simp [intOf]; omega
      · have hk : k = n + 1 := by omega
        subst hk
        rw [List.take_of_length_le (by rw [List.length_map, hXl.out]; exact Nat.le_refl _)] at hval
        have x0 : (wr).cell? ⟨gx, 0, none⟩ = some (Value.slice (some ⟨gm, 0, none⟩) (n + 1) (n + 1)) := (hx.out).cell 0
        have r0 : (wr).cell? ⟨gR, 0, none⟩ = some (Value.slice none 0 0) := (hr.out).cell 0; have rz0 : (wr).frozen? ⟨gR, 0, none⟩ = false := (hr.out).frozen 0
        go_wp2_with fail
        (try simp only [Exit.inBlock, Exit.then])
        have hRf : Blk (wr.setCell ⟨gR, 0, none⟩ (Value.slice (some ⟨gm, 0, none⟩) (n + 1) (n + 1))) gR 57 #[Value.slice (some ⟨gm, 0, none⟩) (n + 1) (n + 1)] := hr.out.set_ 0 _
        have hgs4 : wr.grownBy (wr.setCell ⟨gR, 0, none⟩ (Value.slice (some ⟨gm, 0, none⟩) (n + 1) (n + 1))) (some gR) := only_set (World.grownBy.refl _ _) 0 _
        refine bodyPost_ret (v := .tuple #[.agg #[Value.slice (some ⟨gm, 0, none⟩) (n + 1) (n + 1)], .int .i64 0]) ?_ rfl ?_
        · refine (res2 (fn := Tryd.f31) (p := 4) (u := 5) (ty := 57) rfl _ _ gR 57 _ (0, 0) _ ?_ hRf Tryd.underlying57 rfl (by kernel_rfl)).trans ?_
          · rfl
          · rfl
        · refine ⟨⟨_, _, _, Lk, rfl, BkAt.own (hN.out.grownB hr.out (by decide) hgs4) (fun x hx => NewI.at_ (LOwn.grownB (hni.out x hx) hr.out (by decide) hgs4)), ?_⟩, hb.out.grown hgs4 hb.out.size (fun g8 e8 => by injection e8 with e8; have := hgRw.out; omega)⟩
          rw [hval.out]
          exact hXv.out
end Go.Proofs.YtbngclibfnnejaaDoor
