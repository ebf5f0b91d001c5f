/- Replicated servers: the reference's copy of a log, walked. -/
import Derived.Test.YtiapeenfggjpnaaPL
import Derived.Test.YtiapeenfggjpnaaRUZ
set_option linter.unusedVariables false
set_option linter.unusedSimpArgs false
namespace Go.Proofs.Ytiapeenfggjpnaa
open Go.RowKit
section
variable {P : Program} (w : World)
/-- behind an append onto an own row the row itself still reads as before -/
theorem append_old (base : Nat) (t ty e : TypeId) (i : TypeInfo) (z : Value) (size bytes : Nat) (ht : P.underlying t = some (.slice e)) (hi : P.info? e = some i) (hz : i.zero = some z)
    (hsize : i.size = size) (hby : i.bytes = bytes)
    (v : Value) (n : Nat) (xs : List Value) (hown : w.ownsRow base e size v n xs)
    (B : Nat) (A : Option Addr) (m c : Nat) (news : List Value) (hr : Reads w B size A m news) (h1 : ∀ u ∈ news, u.oneCell' = true)
    (h63 : n + m ≤ maxLen) (hbytes : (n + m) * bytes ≤ 140737488355328)
    (v' : Value) (w' : World) (hrun : (Builtin.append_ #[t, t] ty #[v, .slice A m c]).run P w = .ok v' w') :
    w'.ownsRow base e size v n xs := by
  rcases append_kept w base t ty e i z size bytes ht hi hz hsize hby v n xs hown B A m c news hr h63 hbytes v' w' hrun with hb | ⟨g, cap, rfl, hroom, hm⟩
  · rcases hown.2 with hn | ⟨g, cap, cur, rfl, hb0, hg, rest⟩
    · exact ⟨hown.1, .inl hn⟩
    · exact ⟨hown.1, .inr ⟨g, cap, cur, rfl, hb0, (hb.block g (lt_of_heap hg)).trans hg, rest⟩⟩
  · obtain ⟨hl, h2⟩ := hown
    rcases h2 with ⟨e1, _⟩ | ⟨g2, cap2, cur, e1, hb0, hg, hnc, hcm, hsz, htk⟩
    · cases e1
    · injection e1 with e1 _ e3
      injection e1 with e1
      injection e1 with e1
      subst e1; subst e3
      obtain ⟨ad, rfl, _, hcells⟩ := hr.2 hm
      have hle : (n + m) * size ≤ cap * size := Nat.mul_le_mul_right _ hroom
      rw [Nat.add_mul] at hle
      have hnl : news.length = m * size := hr.1
      have h := run_append_room (P := P) w t ty e i ht hi g n cap cur hg ad m c news (by rw [hsize]; exact hnl) hcells h1 hroom (by rw [hsize, hnl, hsz]; exact hle)
      rw [hrun] at h
      injection h with e1 e2
      subst e2
      rw [hsize]
      refine ⟨hl, .inr ⟨g, cap, _, rfl, hb0, setRow_heap w g cur _ e _ hg, hnc, hcm, ?_, ?_⟩⟩
      · simp [hnl]
        have : min (n * size) cur.size = n * size := Nat.min_eq_left (by omega)
        omega
      · have h5 : (cur.toList.take (n * size)).length = n * size := by simp; omega
        simp only [List.append_assoc]
        rw [List.take_left' h5]
        exact htk
theorem wp_append_old {o : Oper} {a : Act} {K : Act → World → Prop} {Q : Exit → Act → World → Prop} (s x : Operand) (t : TypeId)
    (ho : o.op = .call { callee := .builtin .append, args := #[s, x], argTypes := #[t, t] })
    (base : Nat) (e : TypeId) (i : TypeInfo) (z : Value) (size bytes : Nat) (ht : P.underlying t = some (.slice e)) (hi : P.info? e = some i) (hz : i.zero = some z)
    (hsize : i.size = size) (hby : i.bytes = bytes) (hzs : z.cells.size = size) (hsz : 0 < size)
    (v : Value) (n : Nat) (xs : List Value) (hs : a.eval s = v) (hown : w.ownsRow base e size v n xs)
    (B : Nat) (A : Option Addr) (m c : Nat) (news : List Value) (hx : a.eval x = .slice A m c) (hr : Reads w B size A m news) (h1 : ∀ u ∈ news, u.oneCell' = true)
    (h63 : n + m ≤ maxLen) (hbytes : (n + m) * bytes ≤ 140737488355328) (hbase : base ≤ w.heap.size)
    (h : ∀ v' w', w'.ownsRow base e size v' (n + m) (xs ++ news) → w.grownBy w' v.ownBlock → w'.ownsRow base e size v n xs → K (a.put o.dst v') w') : o.wp P a w K Q := by
  obtain ⟨v', w', hrun, h2, h3, h4⟩ := run_append_any (P := P) w base t o.type e i z size bytes ht hi hz hsize hby hzs hsz v n xs hown B A m c news hr h1 h63 hbytes hbase
  have hk := append_old (P := P) w base t o.type e i z size bytes ht hi hz hsize hby v n xs hown B A m c news hr h1 h63 hbytes v' w' hrun
  unfold Oper.wp execOp
  simp only [ho, resolve, invoke, builtin, Sem.run_bind, Sem.run_pure, Result.andThen_ok, List.map_toArray, List.map_cons, List.map_nil, hs, hx, hrun]
  exact h v' w' h2 h3 hk
end
/-- a log in a row of the call's own, the data in rows of their own -/
def LogR (base : Nat) (L : List Em) (v : Value) (w : World) : Prop := LOwn enC 2 59 w base v L ∧ ∀ e ∈ L, BOwn w base (.slice e.A e.n e.c) e.d
theorem LogR.more {base : Nat} {L : List Em} {v : Value} {w w' : World} (h : LogR base L v w) (hb : Below w.heap.size w w') : LogR base L v w' := ⟨h.1.kept hb, fun e he => (h.2 e he).kept hb⟩
theorem LogR.blk {base : Nat} {L : List Em} {v : Value} {w w' : World} {g : Nat} {t : TypeId} {cs : Array Value} (h : LogR base L v w) (hk : Blk w g t cs) (h1 : t ≠ 59) (h2 : t ≠ 5) (hg : w.grownBy w' (some g)) : LogR base L v w' := ⟨h.1.grownB hk (fun e => h1 e.symm) hg, fun e he => (h.2 e he).grownB hk (fun e => h2 e.symm) hg⟩
theorem LogR.row {α : Type} {f : α → List Value} {s b1 : Nat} {t : TypeId} {l : List α} {v1 : Value} {base : Nat} {L : List Em} {v : Value} {w w' : World} (h : LogR base L v w) (hk : LOwn f s t w b1 v1 l) (h1 : t ≠ 59) (h2 : t ≠ 5) (hg : w.grownBy w' v1.ownBlock) : LogR base L v w' := ⟨h.1.grownT hk (fun e => h1 e.symm) hg, fun e he => (h.2 e he).grownT hk (fun e => h2 e.symm) hg⟩
theorem LogR.mono {base b2 : Nat} {L : List Em} {v : Value} {w : World} (h : LogR base L v w) (hb : b2 ≤ base) : LogR b2 L v w := ⟨h.1.mono hb, fun e he => (h.2 e he).mono hb⟩
theorem BOwn.em {w : World} {base : Nat} {e : Em} (h : BOwn w base (.slice e.A e.n e.c) e.d) : EmAt w (fun b => base ≤ b) e := by
  obtain ⟨A', c', hv, h1, h2, h3, h4⟩ := h.form
  injection hv with e1 e2 e3
  subst e1; subst e3
  rw [← e2] at h1 h4
  exact ⟨h4, ⟨h1, h2⟩, fun _ ad e => (h3 ad e).2.1⟩
theorem LogR.at_ {base n c : Nat} {A : Option Addr} {L : List Em} {w : World} (h : LogR base L (.slice A n c) w) (hl : L.length = n) : LogAt w (fun b => base ≤ b) A n c L := LogAt.of_own h.1 hl (fun e he => (h.2 e he).em)
theorem LogR.form {base : Nat} {L : List Em} {v : Value} {w : World} (h : LogR base L v w) : ∃ A c, v = .slice A L.length c := by
  obtain ⟨A', c', hv, -⟩ := h.1.form
  exact ⟨A', c', hv⟩
/-- an empty literal -/
def E5 (base : Nat) (v : Value) (w : World) : Prop := ∃ g, v = .slice (some ⟨g, 0, none⟩) 0 0 ∧ base ≤ g ∧ Blk w g 5 #[]
theorem E5.more {base : Nat} {v : Value} {w w' : World} (h : E5 base v w) (hb : Below w.heap.size w w') : E5 base v w' := by
  obtain ⟨g, h1, h2, h3⟩ := h
  exact ⟨g, h1, h2, h3.below hb h3.lt⟩
def LogX (base : Nat) (L : List Em) (view : Int) (d : List UInt8) (v : Value) (w : World) : Prop := ∃ e : Em, e.val = ⟨view, d⟩ ∧ LogR base (L ++ [e]) v w
theorem LogX.more {base : Nat} {L : List Em} {view : Int} {d : List UInt8} {v : Value} {w w' : World} (h : LogX base L view d v w) (hb : Below w.heap.size w w') : LogX base L view d v w' := by
  obtain ⟨e, h1, h2⟩ := h
  exact ⟨e, h1, h2.more hb⟩
/-- behind an append onto a row of entries: nothing else moved -/
def R59 (w w' : World) : Prop := (∃ (b : Nat) (v : Value) (L : List Em), LOwn enC 2 59 w b v L ∧ w.grownBy w' v.ownBlock) ∨ Below w.heap.size w w'
theorem R59.own {w w' : World} {base : Nat} {v : Value} {d : List UInt8} (hR : R59 w w') (h : BOwn w base v d) : BOwn w' base v d := by
  rcases hR with ⟨b, v2, L, hk, hg⟩ | hb
  · exact h.grownT hk (by decide) hg
  · exact h.kept hb
theorem R59.e5 {w w' : World} {base : Nat} {v : Value} (hR : R59 w w') (h : E5 base v w) : E5 base v w' := by
  obtain ⟨g, h1, h2, h3⟩ := h
  rcases hR with ⟨b, v2, L, hk, hg⟩ | hb
  · exact ⟨g, h1, h2, h3.grown hg (fun e => own_blk_ne hk.2 h3 (by decide) e.symm)⟩
  · exact ⟨g, h1, h2, h3.below hb h3.lt⟩
def F57 (n c k dc base : Nat) (ad : Addr) (ov : Value) (dA : Option Addr) (view : Int) (d : List UInt8) (L : List Em) : Tmp → Value → World → Prop
  | 0, v, _ => v = .slice (some ad) n c
  | 3, v, _ => v = ov
  | 4, v, _ => v = .int .i64 (k : Int)
  | 11, v, _ => v = ov
  | 12, v, _ => v = .slice (some ad) n c
  | 13, v, _ => v = .int .i64 (k : Int)
  | 14, v, _ => v = .pointer (some (ad.add (k * 2)))
  | 15, v, _ => v = .pointer (some (ad.add (k * 2)))
  | 16, v, _ => v = .int .i64 view
  | 17, v, w => E5 base v w
  | 18, v, _ => v = .slice (some ad) n c
  | 19, v, _ => v = .int .i64 (k : Int)
  | 20, v, _ => v = .pointer (some (ad.add (k * 2)))
  | 21, v, _ => v = .pointer (some ⟨(ad.add (k * 2)).block, (ad.add (k * 2)).off + 1, none⟩)
  | 22, v, _ => v = .slice dA d.length dc
  | 23, v, w => BOwn w base v d
  | 24, v, w => EnV base view d v w
  | 25, v, w => OneV base view d v w
  | 26, v, w => LogX base L view d v w
  | _, _, _ => True
def RF57 (d : Tmp) (w w' : World) : Prop := if d = 26 then R59 w w' else Below w.heap.size w w'
theorem F57_more {n c k dc base : Nat} {ad : Addr} {ov : Value} {dA : Option Addr} {view : Int} {d : List UInt8} {L : List Em} (dd t : Tmp) (v : Value) (w w' : World) (hR : RF57 dd w w') (hne : t ≠ dd) (hc : [((26 : Nat), (25 : Nat))].contains (dd, t) = false) (h : F57 n c k dc base ad ov dA view d L t v w) : F57 n c k dc base ad ov dA view d L t v w' := by
  unfold RF57 at hR
  by_cases hd : dd = 26
  · subst hd
    rw [if_pos rfl] at hR
    unfold F57 at *
    split at h <;> first
      | exact h
      | exact absurd rfl hne
      | exact absurd hc (by decide)
      | exact hR.own h
      | exact hR.e5 h
      | (obtain ⟨A8, c8, e8, h8⟩ := h; exact ⟨A8, c8, e8, hR.own h8⟩)
  · rw [if_neg hd] at hR
    unfold F57 at *
    split at h <;> first | exact h | exact LogR.more h hR | exact EnV.more h hR | exact OneV.more h hR | exact LogX.more h hR | exact LOwn.kept h hR | exact E5.more h hR
theorem F57_lit (tm : Array Value) (hs : tm.size = 28) : tm = #[tm[0]?.getD undef, tm[1]?.getD undef, tm[2]?.getD undef, tm[3]?.getD undef, tm[4]?.getD undef, tm[5]?.getD undef, tm[6]?.getD undef, tm[7]?.getD undef, tm[8]?.getD undef, tm[9]?.getD undef, tm[10]?.getD undef, tm[11]?.getD undef, tm[12]?.getD undef, tm[13]?.getD undef, tm[14]?.getD undef, tm[15]?.getD undef, tm[16]?.getD undef, tm[17]?.getD undef, tm[18]?.getD undef, tm[19]?.getD undef, tm[20]?.getD undef, tm[21]?.getD undef, tm[22]?.getD undef, tm[23]?.getD undef, tm[24]?.getD undef, tm[25]?.getD undef, tm[26]?.getD undef, tm[27]?.getD undef] := lit_arr tm 28 hs
/-- the copy: an own row of entries -/
def CopR (base : Nat) (l : List En) (w' : World) (e : Ending) : Prop := ∃ v L, e = .returned v ∧ LogR base L v w' ∧ L.map Em.val = l
set_option maxRecDepth 100000 in
set_option maxHeartbeats 8000000 in
theorem copied_any (A : Option Addr) (n c : Nat) (log : List Em) (w : World) {Q : Nat → Prop} (h : LogAt w Q A n c log) (hn : n ≤ 5000) (hs : sumD log ≤ 1000000) :
    Calls Try.prog 57 #[.slice A n c] w fun e w' => CopR w.heap.size (log.map Em.val) w' e ∧ Below w.heap.size w w' := by
  have hl : Hid (log.length = n) := h.len
  replace h := Lib.hid h
  replace hs := Lib.hid hs
  obtain ⟨i59, hi59, hz590, hz591, hz592⟩ := info_parts en_info
  obtain ⟨i5, hi5, hz50, hz51, hz52⟩ := info_parts byte_info
  replace hi59 := Lib.hid hi59
  replace hz590 := Lib.hid hz590
  replace hz591 := Lib.hid hz591
  replace hz592 := Lib.hid hz592
  replace hi5 := Lib.hid hi5
  replace hz50 := Lib.hid hz50
  replace hz51 := Lib.hid hz51
  replace hz52 := Lib.hid hz52
  go_enter Try.func57, Try.ntmps57
  go_wp2_with fail
  go_loopw [4, 3] (fun i v wr => ∃ (k : Nat) (L : List Em) (ov : Value), k ≤ n ∧ i = .int .i64 k ∧ ov = v ∧ Hid (L.map Em.val = (log.take k).map Em.val) ∧ Hid (LogR w.heap.size L ov wr) ∧ Hid (Below w.heap.size w wr)) (fun i _ _ => n - (intOf i).toNat)
  case atStart => exact ⟨0, [], _, Nat.zero_le _, rfl, rfl, rfl, ⟨LOwn.nil enC_len _ _, fun e he => by simp at he⟩, Below.refl _ _⟩
  case round =>
    obtain ⟨k, L, ov, hkn, rfl, rfl, hval, hov, hb⟩ := hrel
    have hbase0 := Nat.le_refl w.heap.size
    have hLl : L.length = k := by
      have := congrArg List.length hval.out
      rw [List.length_map, List.length_map, List.length_take] at this
      have := hl.out
      omega
    by_cases hlt : k < n
    · have hkl : k < log.length := by have := hl.out; omega
      have hk0 : (0 : Int) ≤ k := by omega
      have hk1 : (k : Int) < n := by omega
      obtain ⟨ad, hA, -, -, -⟩ := en_cells (h.out.at_.below hb.out (Nat.le_refl _)) hlt
      subst hA
      have hcell0 : ∀ wz, Below w.heap.size w wz → wz.cell? (ad.add (k * 2)) = some (Value.int .i64 log[k].view) ∧ wz.cell? ⟨(ad.add (k * 2)).block, (ad.add (k * 2)).off + 1, none⟩ = some (Value.slice log[k].A log[k].n log[k].c) := fun wz hz => by
        obtain ⟨ad', hA', -, e0, e1⟩ := en_cells (h.out.at_.below hz (Nat.le_refl _)) hlt
        injection hA' with hA'
        subst hA'
        exact ⟨e0, e1⟩
      have hem := h.out.els _ (List.getElem_mem hkl)
      have hdat0 : ∀ wz, Below w.heap.size w wz → EmAt wz Q log[k] := fun wz hz => hem.more hz
      have hdn : log[k].d.length ≤ 1000000 := by
        have h1 := sumD_take log k hkl
        have h2 := sumD_le log (k + 1)
        have := hs.out
        omega
      have hek0 : Hid (log[k].val = log[k].val) := rfl
      generalize hg8 : log[k] = ek at hcell0 hem hdn hdat0
      obtain ⟨view, eA, en, ec, d⟩ := ek
      have hek : Hid (log[k].val = ⟨view, d⟩) := by show _ = _; rw [hg8]; rfl
      obtain rfl : d.length = en := hem.at_.len
      simp only at hcell0 hdn
      have hcell := Lib.hid hcell0
      have hdat : Hid (∀ wz, Below w.heap.size w wz → BAt wz wz.heap.size eA d.length d) := fun wz hz => (hdat0 wz hz).at_
      have hbase1 := Nat.le_refl w.heap.size
      clear hcell0 hem hg8 hek0 hdat0
      go_wp2_with fail
      refine RUZ.region [((26), (25))] [] 16 (F := F57 n c k ec w.heap.size ad ov eA view d L) (W := fun wz => Below w.heap.size w wz ∧ LogR w.heap.size L ov wz) (R := RF57) rfl F57_more (by kernel_rfl) (by kernel_rfl) (by kernel_rfl) (by kernel_rfl) (by kernel_rfl) (by kernel_rfl) ?_ ?_ ?_ ?_
      · exact ⟨hb.out.drew, hov.out.more (Below.refl _ _).drew⟩
      · intro t ht
        unfold F57
        split <;> first | trivial | exact rfl | (exact absurd ht (by decide))
      · intro i o hi ho
        have hcs : i = 0 ∨ i = 1 ∨ i = 2 ∨ i = 3 ∨ i = 4 ∨ i = 5 ∨ i = 6 ∨ i = 7 ∨ i = 8 ∨ i = 9 ∨ i = 10 ∨ i = 11 ∨ i = 12 ∨ i = 13 ∨ i = 14 ∨ i = 15 := by omega
        rcases hcs with rfl | rfl | rfl | rfl | rfl | rfl | rfl | rfl | rfl | rfl | rfl | rfl | rfl | rfl | rfl | rfl <;> (injection ho with ho; subst ho)
        · intro a w2 hw _ hf K hK
          have f0 := hf 3 rfl
          simp only [F57] at f0
          clear hf
          go_simp
          exact hK _ _ _ rfl rfl hw (Below.refl _ _) (fun h => absurd h (by decide))
        · intro a w2 hw _ hf K hK
          have f0 := hf 0 rfl
          simp only [F57] at f0
          clear hf
          go_simp
          exact hK _ _ _ rfl rfl hw (Below.refl _ _) (fun h => absurd h (by decide))
        · intro a w2 hw _ hf K hK
          have f0 := hf 4 rfl
          simp only [F57] at f0
          clear hf
          go_simp
          exact hK _ _ _ rfl rfl hw (Below.refl _ _) (fun h => absurd h (by decide))
        · intro a w2 hw _ hf K hK
          have f0 := hf 12 rfl
          have f1 := hf 13 rfl
          simp only [F57] at f0 f1
          clear hf
          go_simp
          exact hK _ _ _ rfl rfl hw (Below.refl _ _) (fun h => absurd h (by decide))
        · intro a w2 hw _ hf K hK
          have f0 := hf 14 rfl
          simp only [F57] at f0
          clear hf
          obtain ⟨q0, q1⟩ := hcell.out w2 hw.1
          go_simp
          exact hK _ _ _ rfl rfl hw (Below.refl _ _) (fun h => absurd h (by decide))
        · intro a w2 hw _ hf K hK
          have f0 := hf 15 rfl
          simp only [F57] at f0
          clear hf
          obtain ⟨q0, q1⟩ := hcell.out w2 hw.1
          go_simp
          exact hK _ _ _ rfl rfl hw (Below.refl _ _) (fun h => absurd h (by decide))
        · intro a w2 hw _ hf K hK
          clear hf
          go_simp
          exact hK _ _ _ rfl ⟨w2.heap.size, rfl, (Nat.le_trans hbase0 hw.1.size), Blk.new w2 5 #[]⟩ ⟨hw.1.trans ((a1 w2 _).mono (Nat.le_trans hbase0 hw.1.size)), hw.2.more (a1 w2 _)⟩ (a1 w2 _) (fun h => absurd h (by decide))
        · intro a w2 hw _ hf K hK
          have f0 := hf 0 rfl
          simp only [F57] at f0
          clear hf
          go_simp
          exact hK _ _ _ rfl rfl hw (Below.refl _ _) (fun h => absurd h (by decide))
        · intro a w2 hw _ hf K hK
          have f0 := hf 4 rfl
          simp only [F57] at f0
          clear hf
          go_simp
          exact hK _ _ _ rfl rfl hw (Below.refl _ _) (fun h => absurd h (by decide))
        · intro a w2 hw _ hf K hK
          have f0 := hf 18 rfl
          have f1 := hf 19 rfl
          simp only [F57] at f0 f1
          clear hf
          go_simp
          exact hK _ _ _ rfl rfl hw (Below.refl _ _) (fun h => absurd h (by decide))
        · intro a w2 hw _ hf K hK
          have f0 := hf 20 rfl
          simp only [F57] at f0
          clear hf
          go_simp
          exact hK _ _ _ rfl rfl hw (Below.refl _ _) (fun h => absurd h (by decide))
        · intro a w2 hw _ hf K hK
          have f0 := hf 21 rfl
          simp only [F57] at f0
          clear hf
          obtain ⟨q0, q1⟩ := hcell.out w2 hw.1
          go_simp
          exact hK _ _ _ rfl rfl hw (Below.refl _ _) (fun h => absurd h (by decide))
        · intro a w2 hw _ hf K hK
          have f0 := hf 17 rfl
          have f1 := hf 22 rfl
          simp only [F57] at f0 f1
          clear hf
          obtain ⟨g5, e5, hbg, hbk⟩ := f0
          refine wp_append_kept w2 (.tmp 17) (.tmp 22) 25 rfl w.heap.size 5 i5 _ 1 1 Try.underlying25 hi5.out hz50.out hz51.out hz52.out rfl (by omega) (.slice (some ⟨g5, 0, none⟩) 0 0) 0 [] ((eval_tmp a 17).trans e5) ⟨rfl, .inr ⟨g5, 0, #[], rfl, hbg, hbk, Nat.le_refl _, Nat.zero_le _, rfl, rfl⟩⟩ w2.heap.size eA d.length ec (flat bC d) ((eval_tmp a 22).trans f1) (hdat.out w2 hw.1).2 (bC_one _) (by simp only [maxLen]; omega) (by omega) (Nat.le_trans hbase0 hw.1.size) ?_
          intro v' w' hown hg hkp
          have hbl : Below w2.heap.size w2 w' := by
            rcases hkp with h | ⟨g', cap', e, hc, h0⟩
            · exact h
            · injection e with _ _ ec; omega
          rw [Nat.zero_add, List.nil_append] at hown
          exact hK _ _ _ rfl ⟨bC_len, hown⟩ ⟨hw.1.trans ((hbl).mono (Nat.le_trans hbase0 hw.1.size)), hw.2.more (hbl)⟩ hbl (fun h => absurd h (by decide))
        · intro a w2 hw _ hf K hK
          have f0 := hf 16 rfl
          have f1 := hf 23 rfl
          simp only [F57] at f0 f1
          clear hf
          obtain ⟨A6, c6, e6, -, -, -, -⟩ := f1.form
          have f1 := Lib.hid f1
          have e7 := e6
          rw [e6] at f1
          go_simp
          exact hK _ _ _ rfl ⟨A6, c6, rfl, f1.out⟩ hw (Below.refl _ _) (fun h => absurd h (by decide))
        · intro a w2 hw _ hf K hK
          have f0 := hf 24 rfl
          simp only [F57] at f0
          clear hf
          obtain ⟨A6, c6, e6, f0⟩ := f0
          have f0 := Lib.hid f0
          go_simp
          exact hK _ _ _ rfl ⟨w2.heap.size, A6, c6, rfl, (Nat.le_trans hbase0 hw.1.size), Blk.new w2 59 _, f0.out.alloc _⟩ ⟨hw.1.trans ((a1 w2 _).mono (Nat.le_trans hbase0 hw.1.size)), hw.2.more (a1 w2 _)⟩ (a1 w2 _) (fun h => absurd h (by decide))
        · intro a w2 hw _ hf K hK
          have f0 := hf 11 rfl
          have f1 := hf 25 rfl
          simp only [F57] at f0 f1
          clear hf
          obtain ⟨g6, A6, c6, e6, h61, h62, h63⟩ := f1
          refine wp_append_old w2 (.tmp 11) (.tmp 25) 45 rfl w.heap.size 59 i59 _ 2 32 Try.underlying45 hi59.out hz590.out hz591.out hz592.out rfl (by omega) ov L.length (flat enC L) ((eval_tmp a 11).trans f0) hw.2.1.2 w2.heap.size (some ⟨g6, 0, none⟩) 1 1 (flat enC [(⟨view, A6, d.length, c6, d⟩ : Em)]) ((eval_tmp a 25).trans e6) (lat_blk enC_len h62 [(⟨view, A6, d.length, c6, d⟩ : Em)] 1 rfl (by simp [flat, enC])).2 (enC_one _) (by simp only [maxLen]; omega) (by omega) (Nat.le_trans hbase0 hw.1.size) ?_
          intro v' w' hown hg hold
          have hdl : ∀ e ∈ L, BOwn w' w.heap.size (.slice e.A e.n e.c) e.d := fun e he => (hw.2.2 e he).grownT hw.2.1 (by decide) hg
          refine hK _ _ _ rfl ⟨(⟨view, A6, d.length, c6, d⟩ : Em), rfl, ⟨enC_len, by rw [List.length_append, flat_append]; exact hown⟩, fun e he => ?_⟩ ⟨hw.1.grown hg (Nat.le_trans hbase0 hw.1.size) (fun k hk => Nat.le_trans hbase1 (World.ownsRow.lt hw.2.1.2 _ hk).1), ⟨enC_len, hold⟩, hdl⟩ ?_ (fun h => absurd h (by decide))
          · rcases List.mem_append.1 he with he | he
            · exact hdl e he
            · simp at he
              subst he
              exact h63.grownT hw.2.1 (by decide) hg
          · show RF57 26 w2 w'
            unfold RF57
            rw [if_pos rfl]
            exact Or.inl ⟨_, _, _, hw.2.1, hg⟩
      · intro a' w9 hd hs hw hout hf
        have h26 := hf 15 26 (by decide) rfl rfl
        simp only [F57] at h26
        have e0 := hout 0 rfl
        have e1 := hout 1 rfl
        have e2 := hout 2 rfl
        have e3 := hout 3 rfl
        have e4 := hout 4 rfl
        have e5 := hout 5 rfl
        have e6 := hout 6 rfl
        have e7 := hout 7 rfl
        have e8 := hout 8 rfl
        have e9 := hout 9 rfl
        have e10 := hout 10 rfl
        have e27 := hout 27 rfl
        simp only [List.getElem?_toArray, List.getElem?_cons_succ, List.getElem?_cons_zero] at e0 e1 e2 e3 e4 e5 e6 e7 e8 e9 e10 e27
        obtain ⟨tm, df⟩ := a'
        simp only at hd hs h26 e0 e1 e2 e3 e4 e5 e6 e7 e8 e9 e10 e27
        have e := F57_lit tm hs
        simp only [e0, e1, e2, e3, e4, e5, e6, e7, e8, e9, e10, e27, Option.getD_some] at e
        clear hf hout hs
        rw [e, hd]
        clear e hd e0 e1 e2 e3 e4 e5 e6 e7 e8 e9 e10 e27
        generalize tm[26]?.getD undef = u26x at h26 ⊢
        generalize tm[11]?.getD undef = u11x, tm[12]?.getD undef = u12x, tm[13]?.getD undef = u13x, tm[14]?.getD undef = u14x, tm[15]?.getD undef = u15x, tm[16]?.getD undef = u16x, tm[17]?.getD undef = u17x, tm[18]?.getD undef = u18x, tm[19]?.getD undef = u19x, tm[20]?.getD undef = u20x, tm[21]?.getD undef = u21x, tm[22]?.getD undef = u22x, tm[23]?.getD undef = u23x, tm[24]?.getD undef = u24x, tm[25]?.getD undef = u25x
        obtain ⟨e8, he8, hLR⟩ := h26
        replace hLR := Lib.hid hLR
        have hb9 : Hid (Below w.heap.size w w9) := hw.1
        have hval9 : Hid ((L ++ [e8]).map Em.val = (log.take (k + 1)).map Em.val) := by
          show _ = _
          rw [List.take_succ_eq_append_getElem hkl, List.map_append, List.map_append, hval.out, List.map_cons, List.map_nil, List.map_cons, List.map_nil, he8, hek.out]
        clear hw hcell hdat hov he8 hb
        go_wp2_with fail
        go_roundw
        case rel => exact ⟨k + 1, L ++ [e8], _, by omega, by go_num, rfl, hval9.out, hLR.out, hb9.out⟩
        case measure => simp [intOf]; omega
    · obtain ⟨A9, c9, rfl⟩ := hov.out.form
      have hk : k = n := by omega
      have hvF : Hid (L.map Em.val = log.map Em.val) := by
        show _ = _
        rw [hval.out, List.take_of_length_le (by have := hl.out; omega)]
      go_wp2_with fail
      go_ret
      exact ⟨⟨_, L, rfl, hov.out, hvF.out⟩, hb.out⟩
end Go.Proofs.Ytiapeenfggjpnaa
