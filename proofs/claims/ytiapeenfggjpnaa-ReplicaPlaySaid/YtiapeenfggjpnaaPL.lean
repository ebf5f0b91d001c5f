/- Replicated servers: what Submit needs. -/
import Derived.Test.YtiapeenfggjpnaaPK
set_option linter.unusedVariables false
set_option linter.unusedSimpArgs false
namespace Go.Proofs.Ytiapeenfggjpnaa
open Go.RowKit
theorem eval_tmp (a : Act) (t : Tmp) : a.eval (.tmp t) = a.tmps[t]?.getD undef := by simp [Act.eval, Array.getD_eq_getD_getElem?]
theorem row_ne {α β : Type} {f1 : α → List Value} {f2 : β → List Value} {s1 s2 b1 b2 : Nat} {e1 e2 : TypeId} {w : World} {v1 v2 : Value} {l1 : List α} {l2 : List β} (h1 : LOwn f1 s1 e1 w b1 v1 l1) (h2 : LOwn f2 s2 e2 w b2 v2 l2) (hne : e1 ≠ e2) : v1.ownBlock = none ∨ v1.ownBlock ≠ v2.ownBlock := by
  rcases h1.2.2 with ⟨rfl, _⟩ | ⟨g, c, cur, rfl, _, hh, _⟩
  · exact .inl rfl
  · rcases h2.2.2 with ⟨rfl, _⟩ | ⟨g', c', cur', rfl, _, hh', _⟩
    · exact .inr (by simp [Value.ownBlock])
    · refine .inr (fun e => ?_)
      simp [Value.ownBlock] at e
      subst e
      rw [hh] at hh'
      injection hh' with hh'
      injection hh' with _ hh' _
      exact hne hh'
theorem LOwn.grownT {α β : Type} {f1 : α → List Value} {f2 : β → List Value} {s1 s2 b1 b2 : Nat} {e1 e2 : TypeId} {w w' : World} {v1 v2 : Value} {l1 : List α} {l2 : List β} (h1 : LOwn f1 s1 e1 w b1 v1 l1) (h2 : LOwn f2 s2 e2 w b2 v2 l2) (hne : e1 ≠ e2) (hg : w.grownBy w' v2.ownBlock) : LOwn f1 s1 e1 w' b1 v1 l1 :=
  ⟨h1.1, World.ownsRow.kept h1.2 hg (row_ne h1 h2 hne)⟩
theorem LOwn.grownB {α : Type} {f1 : α → List Value} {s1 b1 : Nat} {e1 t : TypeId} {w w' : World} {v1 : Value} {l1 : List α} {g : Nat} {cs : Array Value} (h1 : LOwn f1 s1 e1 w b1 v1 l1) (h2 : Blk w g t cs) (hne : e1 ≠ t) (hg : w.grownBy w' (some g)) : LOwn f1 s1 e1 w' b1 v1 l1 := by
  refine ⟨h1.1, World.ownsRow.kept h1.2 hg ?_⟩
  rcases h1.2.2 with ⟨rfl, _⟩ | ⟨g', c, cur, rfl, _, hh, _⟩
  · exact .inl rfl
  · refine .inr (fun e => ?_)
    simp [Value.ownBlock] at e
    subst e
    unfold Blk at h2
    rw [hh] at h2
    injection h2 with h2
    injection h2 with _ h2 _
    exact hne h2
theorem LOwn.blk_of {w w' : World} {base g n cap : Nat} {l : List Em} (h : LOwn enC 2 59 w base (.slice (some ⟨g, 0, none⟩) n cap) l) (hg : w.grownBy w' (some g)) : ∃ g cs, w.grownBy w' (some g) ∧ Blk w g 59 cs := by
  rcases h.2.2 with ⟨e, _⟩ | ⟨g', c, cur, e, _, hh, _⟩
  · cases e
  · injection e with e _ _
    injection e with e
    injection e with e
    subst e
    exact ⟨g, cur, hg, hh⟩
/-- a copied log, in a row of the call's own with room for one more -/
def OwnLog (base n : Nat) (lv : List En) (v : Value) (w : World) : Prop := ∃ g l, v = .slice (some ⟨g, 0, none⟩) n (n + 1) ∧ LOwn enC 2 59 w base (.slice (some ⟨g, 0, none⟩) n (n + 1)) l ∧ (∀ e ∈ l, EmAt w (fun b => base ≤ b ∧ b ≠ g) e) ∧ l.map Em.val = lv
theorem OwnLog.more {base n : Nat} {lv : List En} {v : Value} {w w' : World} (h : OwnLog base n lv v w) (hb : Below w.heap.size w w') : OwnLog base n lv v w' := by
  obtain ⟨g, l, h1, h2, h3, h4⟩ := h
  exact ⟨g, l, h1, h2.kept hb, fun e he => (h3 e he).more hb, h4⟩
def EnV (base : Nat) (view : Int) (d : List UInt8) (v : Value) (w : World) : Prop := ∃ A c, v = .agg #[.int .i64 view, .slice A d.length c] ∧ BOwn w base (.slice A d.length c) d
theorem EnV.more {base : Nat} {view : Int} {d : List UInt8} {v : Value} {w w' : World} (h : EnV base view d v w) (hb : Below w.heap.size w w') : EnV base view d v w' := by
  obtain ⟨A, c, h1, h2⟩ := h
  exact ⟨A, c, h1, h2.kept hb⟩
def OneV (base : Nat) (view : Int) (d : List UInt8) (v : Value) (w : World) : Prop := ∃ g A c, v = .slice (some ⟨g, 0, none⟩) 1 1 ∧ base ≤ g ∧ Blk w g 59 #[.int .i64 view, .slice A d.length c] ∧ BOwn w base (.slice A d.length c) d
theorem OneV.more {base : Nat} {view : Int} {d : List UInt8} {v : Value} {w w' : World} (h : OneV base view d v w) (hb : Below w.heap.size w w') : OneV base view d v w' := by
  obtain ⟨g, A, c, h1, h2, h3, h4⟩ := h
  exact ⟨g, A, c, h1, h2, h3.below hb h3.lt, h4.kept hb⟩
def ResS (Q : Nat → Prop) (w w' : World) (r : Cv × Int × Int) (e : Ending) : Prop := ∃ k', e = .returned (.tuple #[clV k', .int .i64 r.2.1, .int .i64 r.2.2]) ∧ CmAt w' (fun b => Q b ∨ w.heap.size ≤ b) k' ∧ k'.val = r.1
def svSm (s : Sv) : Prop := s.log.length ≤ 5000 ∧ (s.log.map (·.d.length)).sum ≤ 1000000
theorem svSm_of {s : Sm} {w : World} {Q : Nat → Prop} (h : SmAt w Q s) (hs : svSm s.val) : s.n ≤ 5000 ∧ sumD s.log ≤ 1000000 := by
  obtain ⟨h1, h2⟩ := hs
  refine ⟨?_, ?_⟩
  · have := h.len
    rw [← this]
    simpa [Sm.val] using h1
  · unfold sumD
    have : (s.val.log.map (·.d.length)) = s.log.map (·.d.length) := by
      show (s.log.map Em.val).map _ = _
      rw [List.map_map]
      rfl
    rw [← this]
    exact h2
theorem upd_step (V : Int) (nl : List En) (reach prim : Int) (U : List Sv) (k : Nat) (h : Int) (x : Sv) (hx : U[k]? = some x) (R : List Sv × Int) (hR : R = (U.take k ++ (updS V nl reach prim (U.drop k) k h).1, (updS V nl reach prim (U.drop k) k h).2))
    (v : Sv) (h' : Int) (hv : (v, h') = if (k : Int) = prim then (x, h) else if x.up = true ∧ (reach < 1 ∨ h < reach) then (⟨x.up, V, nl⟩, h + 1) else (x, h)) :
    R = ((U.set k v).take (k + 1) ++ (updS V nl reach prim ((U.set k v).drop (k + 1)) (k + 1) h').1, (updS V nl reach prim ((U.set k v).drop (k + 1)) (k + 1) h').2) := by
  obtain ⟨hk, rfl⟩ := List.getElem?_eq_some_iff.1 hx
  rw [hR, List.drop_eq_getElem_cons hk]
  have e1 : (U.set k v).drop (k + 1) = U.drop (k + 1) := by rw [List.drop_set_of_lt (by omega)]
  have e2 : (U.set k v).take (k + 1) = U.take k ++ [v] := by
    rw [List.take_succ_eq_append_getElem (by simpa using hk), List.take_set_of_le (Nat.le_refl _)]
    simp
  rw [e1, e2]
  have e3 : updS V nl reach prim (U[k] :: U.drop (k + 1)) k h = if (k : Int) = prim then (U[k] :: (updS V nl reach prim (U.drop (k + 1)) (k + 1) h).1, (updS V nl reach prim (U.drop (k + 1)) (k + 1) h).2) else if U[k].up = true ∧ (reach < 1 ∨ h < reach) then (⟨U[k].up, V, nl⟩ :: (updS V nl reach prim (U.drop (k + 1)) (k + 1) (h + 1)).1, (updS V nl reach prim (U.drop (k + 1)) (k + 1) (h + 1)).2) else (U[k] :: (updS V nl reach prim (U.drop (k + 1)) (k + 1) h).1, (updS V nl reach prim (U.drop (k + 1)) (k + 1) h).2) := rfl
  rw [e3, List.append_assoc]
  split at hv
  · rename_i hc
    rw [if_pos hc]
    injection hv with h1 h2
    subst h1; subst h2
    rfl
  · rename_i hc
    rw [if_neg hc]
    split at hv
    · rename_i hc2
      rw [if_pos hc2]
      injection hv with h1 h2
      subst h1; subst h2
      rfl
    · rename_i hc2
      rw [if_neg hc2]
      injection hv with h1 h2
      subst h1; subst h2
      rfl
def F23a (gx cu : Nat) (cs : Array Value) (hp mj : Bool) : Tmp → Value → World → Prop
  | 3, v, _ => v = .pointer (some ⟨gx, 0, none⟩)
  | 15, v, _ => v = .agg cs
  | 16, v, _ => v = .bool hp
  | 17, v, _ => v = .bool (!hp)
  | 18, v, _ => v = .bool (!hp)
  | 19, v, _ => (hp = true → v = .agg cs)
  | 20, v, _ => (hp = true → v = .agg cs)
  | 21, v, _ => (hp = true → v = .int .i64 (cu : Int))
  | 22, v, _ => (hp = true → v = .bool mj)
  | 23, v, _ => (hp = true → v = .bool (!mj))
  | 24, v, _ => v = .bool (!hp || !mj)
  | _, _, _ => True
theorem F23a_more {gx cu : Nat} {cs : Array Value} {hp mj : Bool} (d t : Tmp) (v : Value) (w w' : World) (hR : Rb w w') (hne : t ≠ d) (hc : ([] : List (Tmp × Tmp)).contains (d, t) = false) (h : F23a gx cu cs hp mj t v w) : F23a gx cu cs hp mj t v w' := by
  unfold F23a at *
  split at h <;> first | exact h
theorem F23a_lit (tm : Array Value) (hs : tm.size = 124) : tm = #[tm[0]?.getD undef, tm[1]?.getD undef, tm[2]?.getD undef, tm[3]?.getD undef, tm[4]?.getD undef, tm[5]?.getD undef, tm[6]?.getD undef, tm[7]?.getD undef, tm[8]?.getD undef, tm[9]?.getD undef, tm[10]?.getD undef, tm[11]?.getD undef, tm[12]?.getD undef, tm[13]?.getD undef, tm[14]?.getD undef, tm[15]?.getD undef, tm[16]?.getD undef, tm[17]?.getD undef, tm[18]?.getD undef, tm[19]?.getD undef, tm[20]?.getD undef, tm[21]?.getD undef, tm[22]?.getD undef, tm[23]?.getD undef, tm[24]?.getD undef, tm[25]?.getD undef, tm[26]?.getD undef, tm[27]?.getD undef, tm[28]?.getD undef, tm[29]?.getD undef, tm[30]?.getD undef, tm[31]?.getD undef, tm[32]?.getD undef, tm[33]?.getD undef, tm[34]?.getD undef, tm[35]?.getD undef, tm[36]?.getD undef, tm[37]?.getD undef, tm[38]?.getD undef, tm[39]?.getD undef, tm[40]?.getD undef, tm[41]?.getD undef, tm[42]?.getD undef, tm[43]?.getD undef, tm[44]?.getD undef, tm[45]?.getD undef, tm[46]?.getD undef, tm[47]?.getD undef, tm[48]?.getD undef, tm[49]?.getD undef, tm[50]?.getD undef, tm[51]?.getD undef, tm[52]?.getD undef, tm[53]?.getD undef, tm[54]?.getD undef, tm[55]?.getD undef, tm[56]?.getD undef, tm[57]?.getD undef, tm[58]?.getD undef, tm[59]?.getD undef, tm[60]?.getD undef, tm[61]?.getD undef, tm[62]?.getD undef, tm[63]?.getD undef, tm[64]?.getD undef, tm[65]?.getD undef, tm[66]?.getD undef, tm[67]?.getD undef, tm[68]?.getD undef, tm[69]?.getD undef, tm[70]?.getD undef, tm[71]?.getD undef, tm[72]?.getD undef, tm[73]?.getD undef, tm[74]?.getD undef, tm[75]?.getD undef, tm[76]?.getD undef, tm[77]?.getD undef, tm[78]?.getD undef, tm[79]?.getD undef, tm[80]?.getD undef, tm[81]?.getD undef, tm[82]?.getD undef, tm[83]?.getD undef, tm[84]?.getD undef, tm[85]?.getD undef, tm[86]?.getD undef, tm[87]?.getD undef, tm[88]?.getD undef, tm[89]?.getD undef, tm[90]?.getD undef, tm[91]?.getD undef, tm[92]?.getD undef, tm[93]?.getD undef, tm[94]?.getD undef, tm[95]?.getD undef, tm[96]?.getD undef, tm[97]?.getD undef, tm[98]?.getD undef, tm[99]?.getD undef, tm[100]?.getD undef, tm[101]?.getD undef, tm[102]?.getD undef, tm[103]?.getD undef, tm[104]?.getD undef, tm[105]?.getD undef, tm[106]?.getD undef, tm[107]?.getD undef, tm[108]?.getD undef, tm[109]?.getD undef, tm[110]?.getD undef, tm[111]?.getD undef, tm[112]?.getD undef, tm[113]?.getD undef, tm[114]?.getD undef, tm[115]?.getD undef, tm[116]?.getD undef, tm[117]?.getD undef, tm[118]?.getD undef, tm[119]?.getD undef, tm[120]?.getD undef, tm[121]?.getD undef, tm[122]?.getD undef, tm[123]?.getD undef] := lit_arr tm 124 hs
def F23b (g0 g pj pn pc dn dc base : Nat) (pA dA : Option Addr) (view : Int) (d : List UInt8) (lv : List En) : Tmp → Value → World → Prop
  | 1, v, _ => v = .slice dA dn dc
  | 3, v, _ => v = .pointer (some ⟨g0, 0, none⟩)
  | 10, v, _ => v = .pointer (some ⟨g, pj * 3, none⟩)
  | 56, v, _ => v = .pointer (some ⟨g, pj * 3, none⟩)
  | 57, v, _ => v = .pointer (some ⟨g, pj * 3, none⟩)
  | 58, v, _ => v = .pointer (some ⟨g, pj * 3, none⟩)
  | 59, v, _ => v = .pointer (some ⟨g, pj * 3 + 2, none⟩)
  | 60, v, _ => v = .slice pA pn pc
  | 61, v, w => OwnLog base pn lv v w
  | 62, v, _ => v = .pointer (some ⟨g0, 1, none⟩)
  | 63, v, _ => v = .int .i64 view
  | 64, v, _ => v = .slice dA dn dc
  | 65, v, w => BOwn w base v d
  | 66, v, w => EnV base view d v w
  | 67, v, w => OneV base view d v w
  | 68, v, w => LogV base (pn + 1) (lv ++ [⟨view, d⟩]) v w
  | 69, v, _ => v = .pointer (some ⟨g, pj * 3, none⟩)
  | 70, v, _ => v = .pointer (some ⟨g, pj * 3 + 2, none⟩)
  | _, _, _ => True
def R23b (d : Tmp) (w w' : World) : Prop := if d = 68 then (∃ g cs, w.grownBy w' (some g) ∧ Blk w g 59 cs) else Below w.heap.size w w'
theorem F23b_more {g0 g pj pn pc dn dc base : Nat} {pA dA : Option Addr} {view : Int} {d : List UInt8} {lv : List En} (dd t : Tmp) (v : Value) (w w' : World) (hR : R23b dd w w') (hne : t ≠ dd) (hc : [((68 : Nat), (61 : Nat)), ((68 : Nat), (67 : Nat))].contains (dd, t) = false) (h : F23b g0 g pj pn pc dn dc base pA dA view d lv t v w) : F23b g0 g pj pn pc dn dc base pA dA view d lv t v w' := by
  unfold R23b at hR
  by_cases hd : dd = 68
  · subst hd
    rw [if_pos rfl] at hR
    obtain ⟨g8, cs8, hg8, hk8⟩ := hR
    unfold F23b at *
    split at h <;> first
      | exact h
      | exact absurd rfl hne
      | exact absurd hc (by decide)
      | exact LOwn.grownB h hk8 (by decide) hg8
      | (obtain ⟨A8, c8, e8, h8⟩ := h; exact ⟨A8, c8, e8, LOwn.grownB h8 hk8 (by decide) hg8⟩)
  · rw [if_neg hd] at hR
    unfold F23b at *
    split at h <;> first | exact h | exact OwnLog.more h hR | exact EnV.more h hR | exact OneV.more h hR | exact LogV.more h hR | exact LOwn.kept h hR
theorem F23b_lit (tm : Array Value) (hs : tm.size = 124) : tm = #[tm[0]?.getD undef, tm[1]?.getD undef, tm[2]?.getD undef, tm[3]?.getD undef, tm[4]?.getD undef, tm[5]?.getD undef, tm[6]?.getD undef, tm[7]?.getD undef, tm[8]?.getD undef, tm[9]?.getD undef, tm[10]?.getD undef, tm[11]?.getD undef, tm[12]?.getD undef, tm[13]?.getD undef, tm[14]?.getD undef, tm[15]?.getD undef, tm[16]?.getD undef, tm[17]?.getD undef, tm[18]?.getD undef, tm[19]?.getD undef, tm[20]?.getD undef, tm[21]?.getD undef, tm[22]?.getD undef, tm[23]?.getD undef, tm[24]?.getD undef, tm[25]?.getD undef, tm[26]?.getD undef, tm[27]?.getD undef, tm[28]?.getD undef, tm[29]?.getD undef, tm[30]?.getD undef, tm[31]?.getD undef, tm[32]?.getD undef, tm[33]?.getD undef, tm[34]?.getD undef, tm[35]?.getD undef, tm[36]?.getD undef, tm[37]?.getD undef, tm[38]?.getD undef, tm[39]?.getD undef, tm[40]?.getD undef, tm[41]?.getD undef, tm[42]?.getD undef, tm[43]?.getD undef, tm[44]?.getD undef, tm[45]?.getD undef, tm[46]?.getD undef, tm[47]?.getD undef, tm[48]?.getD undef, tm[49]?.getD undef, tm[50]?.getD undef, tm[51]?.getD undef, tm[52]?.getD undef, tm[53]?.getD undef, tm[54]?.getD undef, tm[55]?.getD undef, tm[56]?.getD undef, tm[57]?.getD undef, tm[58]?.getD undef, tm[59]?.getD undef, tm[60]?.getD undef, tm[61]?.getD undef, tm[62]?.getD undef, tm[63]?.getD undef, tm[64]?.getD undef, tm[65]?.getD undef, tm[66]?.getD undef, tm[67]?.getD undef, tm[68]?.getD undef, tm[69]?.getD undef, tm[70]?.getD undef, tm[71]?.getD undef, tm[72]?.getD undef, tm[73]?.getD undef, tm[74]?.getD undef, tm[75]?.getD undef, tm[76]?.getD undef, tm[77]?.getD undef, tm[78]?.getD undef, tm[79]?.getD undef, tm[80]?.getD undef, tm[81]?.getD undef, tm[82]?.getD undef, tm[83]?.getD undef, tm[84]?.getD undef, tm[85]?.getD undef, tm[86]?.getD undef, tm[87]?.getD undef, tm[88]?.getD undef, tm[89]?.getD undef, tm[90]?.getD undef, tm[91]?.getD undef, tm[92]?.getD undef, tm[93]?.getD undef, tm[94]?.getD undef, tm[95]?.getD undef, tm[96]?.getD undef, tm[97]?.getD undef, tm[98]?.getD undef, tm[99]?.getD undef, tm[100]?.getD undef, tm[101]?.getD undef, tm[102]?.getD undef, tm[103]?.getD undef, tm[104]?.getD undef, tm[105]?.getD undef, tm[106]?.getD undef, tm[107]?.getD undef, tm[108]?.getD undef, tm[109]?.getD undef, tm[110]?.getD undef, tm[111]?.getD undef, tm[112]?.getD undef, tm[113]?.getD undef, tm[114]?.getD undef, tm[115]?.getD undef, tm[116]?.getD undef, tm[117]?.getD undef, tm[118]?.getD undef, tm[119]?.getD undef, tm[120]?.getD undef, tm[121]?.getD undef, tm[122]?.getD undef, tm[123]?.getD undef] := lit_arr tm 124 hs
def F23c (g9 gp g n cap k xn xc base : Nat) (xA : Option Addr) (lv : List En) : Tmp → Value → World → Prop
  | 9, v, _ => v = .pointer (some ⟨g9, 0, none⟩)
  | 13, v, _ => v = .int .i64 (k : Int)
  | 14, v, _ => v = .pointer (some ⟨gp, 0, none⟩)
  | 99, v, _ => v = .pointer (some ⟨g9, 3, none⟩)
  | 100, v, _ => v = .slice (some ⟨g, 0, none⟩) n cap
  | 101, v, _ => v = .int .i64 (k : Int)
  | 102, v, _ => v = .pointer (some ⟨gp, 2, none⟩)
  | 103, v, _ => v = .slice xA xn xc
  | 104, v, w => LogV base xn lv v w
  | 105, v, _ => v = .pointer (some ⟨g, k * 3, none⟩)
  | 106, v, _ => v = .pointer (some ⟨g, k * 3 + 2, none⟩)
  | _, _, _ => True
theorem F23c_more {g9 gp g n cap k xn xc base : Nat} {xA : Option Addr} {lv : List En} (d t : Tmp) (v : Value) (w w' : World) (hR : Rb w w') (hne : t ≠ d) (hc : ([] : List (Tmp × Tmp)).contains (d, t) = false) (h : F23c g9 gp g n cap k xn xc base xA lv t v w) : F23c g9 gp g n cap k xn xc base xA lv t v w' := by
  unfold F23c at *
  split at h <;> first | exact h | exact LogV.more h hR | exact fun hg => LogV.more (h hg) hR
theorem F23c_lit (tm : Array Value) (hs : tm.size = 124) : tm = #[tm[0]?.getD undef, tm[1]?.getD undef, tm[2]?.getD undef, tm[3]?.getD undef, tm[4]?.getD undef, tm[5]?.getD undef, tm[6]?.getD undef, tm[7]?.getD undef, tm[8]?.getD undef, tm[9]?.getD undef, tm[10]?.getD undef, tm[11]?.getD undef, tm[12]?.getD undef, tm[13]?.getD undef, tm[14]?.getD undef, tm[15]?.getD undef, tm[16]?.getD undef, tm[17]?.getD undef, tm[18]?.getD undef, tm[19]?.getD undef, tm[20]?.getD undef, tm[21]?.getD undef, tm[22]?.getD undef, tm[23]?.getD undef, tm[24]?.getD undef, tm[25]?.getD undef, tm[26]?.getD undef, tm[27]?.getD undef, tm[28]?.getD undef, tm[29]?.getD undef, tm[30]?.getD undef, tm[31]?.getD undef, tm[32]?.getD undef, tm[33]?.getD undef, tm[34]?.getD undef, tm[35]?.getD undef, tm[36]?.getD undef, tm[37]?.getD undef, tm[38]?.getD undef, tm[39]?.getD undef, tm[40]?.getD undef, tm[41]?.getD undef, tm[42]?.getD undef, tm[43]?.getD undef, tm[44]?.getD undef, tm[45]?.getD undef, tm[46]?.getD undef, tm[47]?.getD undef, tm[48]?.getD undef, tm[49]?.getD undef, tm[50]?.getD undef, tm[51]?.getD undef, tm[52]?.getD undef, tm[53]?.getD undef, tm[54]?.getD undef, tm[55]?.getD undef, tm[56]?.getD undef, tm[57]?.getD undef, tm[58]?.getD undef, tm[59]?.getD undef, tm[60]?.getD undef, tm[61]?.getD undef, tm[62]?.getD undef, tm[63]?.getD undef, tm[64]?.getD undef, tm[65]?.getD undef, tm[66]?.getD undef, tm[67]?.getD undef, tm[68]?.getD undef, tm[69]?.getD undef, tm[70]?.getD undef, tm[71]?.getD undef, tm[72]?.getD undef, tm[73]?.getD undef, tm[74]?.getD undef, tm[75]?.getD undef, tm[76]?.getD undef, tm[77]?.getD undef, tm[78]?.getD undef, tm[79]?.getD undef, tm[80]?.getD undef, tm[81]?.getD undef, tm[82]?.getD undef, tm[83]?.getD undef, tm[84]?.getD undef, tm[85]?.getD undef, tm[86]?.getD undef, tm[87]?.getD undef, tm[88]?.getD undef, tm[89]?.getD undef, tm[90]?.getD undef, tm[91]?.getD undef, tm[92]?.getD undef, tm[93]?.getD undef, tm[94]?.getD undef, tm[95]?.getD undef, tm[96]?.getD undef, tm[97]?.getD undef, tm[98]?.getD undef, tm[99]?.getD undef, tm[100]?.getD undef, tm[101]?.getD undef, tm[102]?.getD undef, tm[103]?.getD undef, tm[104]?.getD undef, tm[105]?.getD undef, tm[106]?.getD undef, tm[107]?.getD undef, tm[108]?.getD undef, tm[109]?.getD undef, tm[110]?.getD undef, tm[111]?.getD undef, tm[112]?.getD undef, tm[113]?.getD undef, tm[114]?.getD undef, tm[115]?.getD undef, tm[116]?.getD undef, tm[117]?.getD undef, tm[118]?.getD undef, tm[119]?.getD undef, tm[120]?.getD undef, tm[121]?.getD undef, tm[122]?.getD undef, tm[123]?.getD undef] := lit_arr tm 124 hs
end Go.Proofs.Ytiapeenfggjpnaa
