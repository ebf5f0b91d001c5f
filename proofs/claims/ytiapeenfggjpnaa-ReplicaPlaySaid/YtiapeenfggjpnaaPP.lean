/- Replicated servers: Tick, walked. -/
import Derived.Test.YtiapeenfggjpnaaPO
set_option linter.unusedVariables false
set_option linter.unusedSimpArgs false
namespace Go.Proofs.Ytiapeenfggjpnaa
open Go.RowKit
theorem hasP_neg {k : Cm} (h : k.primary < 0) : hasP k = false := by unfold hasP; rw [decide_eq_false (by omega)]; rfl
theorem hasP_pos {pj n c : Nat} {view commit : Int} {A : Option Addr} {sl : List Sm} (h : pj < n) : hasP ⟨(pj : Int), view, commit, A, n, c, sl⟩ = true := by
  unfold hasP
  simp
  omega
theorem tick_no (c : Cv) (h : majN c.servers.length (countUp c.servers) = false) : tickC c = c := by unfold tickC; rw [if_pos (.inl h)]
theorem tick_end (c : Cv) (h : c.primary < 0 ∧ 2147483647 ≤ c.view) : tickC c = c := by unfold tickC; rw [if_pos (.inr h)]
theorem tick_settled (c : Cv) (h : settledC c = true) : tickC c = c := by
  unfold settledC at h
  cases hpo : primOf c with
  | none => rw [hpo] at h; cases h
  | some p =>
    rw [hpo] at h
    simp only [Bool.and_eq_true, decide_eq_true_eq, List.all_eq_true] at h
    obtain ⟨h1, h2⟩ := h
    have h0 : ¬ c.primary < 0 := by
      intro h0
      unfold primOf at hpo
      rw [if_pos h0] at hpo
      cases hpo
    unfold tickC
    split
    · rfl
    · have e : elected c = c := by unfold elected; rw [if_neg h0]
      rw [e, hpo]
      simp only
      have hb : bringS c.view p.log c.servers = c.servers := by
        unfold bringS
        have : ∀ s ∈ c.servers, (if s.up = true then (⟨true, c.view, p.log⟩ : Sv) else s) = s := by
          intro s hs
          have h3 := h2 s hs
          split
          · rename_i hu
            rw [hu] at h3
            simp only [Bool.not_true, Bool.false_or, Bool.and_eq_true, decide_eq_true_eq] at h3
            obtain ⟨h4, h5⟩ := h3
            have h6 := (eqLog_iff _ _).1 h5
            obtain ⟨su, sv, sl⟩ := s
            simp only at hu h4 h6
            rw [hu, h4, h6]
          · rfl
        rw [List.map_congr_left this]
        simp
      rw [hb, ← h1]
theorem tick_go (c : Cv) (h : majN c.servers.length (countUp c.servers) = true) (h2 : ¬ (c.primary < 0 ∧ 2147483647 ≤ c.view)) (p : Sv) (hp : primOf (elected c) = some p) : tickC c = ⟨(elected c).primary, (elected c).view, p.log.length, bringS (elected c).view p.log c.servers⟩ := by
  unfold tickC
  rw [if_neg (fun h3 => h3.elim (fun h4 => by rw [h] at h4; cases h4) h2), hp]
theorem tick_prim (k : Cm) (pj : Nat) (hl : k.servers.length = k.n) (hm : majN k.n (countUp (k.servers.map Sm.val)) = true) (hpj : k.primary = (pj : Int)) (hpn : pj < k.n) (hup : ∀ p, primOf k.val = some p → p.up = true) :
    ∃ p, k.servers[pj]? = some p ∧ p.up = true ∧ tickC k.val = ⟨(pj : Int), k.view, ((p.log.map Em.val).length : Int), bringS k.view (p.log.map Em.val) (k.servers.map Sm.val)⟩ := by
  have hpl : pj < k.servers.length := by omega
  have hpo := primOf_at k pj _ hpj (List.getElem?_eq_getElem hpl)
  have he : elected k.val = k.val := by unfold elected; rw [if_neg (show ¬ k.val.primary < 0 from fun h => by have h : k.primary < 0 := h; omega)]
  refine ⟨k.servers[pj], List.getElem?_eq_getElem hpl, hup _ hpo, ?_⟩
  rw [tick_go k.val (by show majN (k.servers.map Sm.val).length _ = true; rw [List.length_map, hl]; exact hm) (fun h => by have h := h.1; have h : k.primary < 0 := h; omega) _ (by rw [he]; exact hpo), he]
  show Cv.mk k.primary _ _ _ = _
  rw [hpj]
  rfl
theorem tick_elect (k : Cm) (hl : k.servers.length = k.n) (hm : majN k.n (countUp (k.servers.map Sm.val)) = true) (hp : k.primary < 0) (hv : ¬ 2147483647 ≤ k.view) :
    ∃ (pj : Nat) (p : Sm), greatS (fun s => s.up) (k.servers.map Sm.val) = some (pj, p.val) ∧ pj < k.n ∧ k.servers[pj]? = some p ∧ p.up = true ∧ tickC k.val = ⟨(pj : Int), k.view + 1, ((p.log.map Em.val).length : Int), bringS (k.view + 1) (p.log.map Em.val) (k.servers.map Sm.val)⟩ := by
  have h1 : 0 < countUp (k.servers.map Sm.val) := by
    have := (majN_iff _ _).1 hm
    omega
  obtain ⟨s, hs, hu⟩ := List.countP_pos_iff.1 h1
  obtain ⟨q, hq, _⟩ := great_max (p := fun s => s.up) hs hu
  obtain ⟨h2, h3⟩ := great_some hq
  rw [List.getElem?_map] at h2
  cases hy : k.servers[q.1]? with
  | none => rw [hy] at h2; cases h2
  | some p =>
    rw [hy] at h2
    injection h2 with h2
    have hpl := (List.getElem?_eq_some_iff.1 hy).1
    have he : elected k.val = ⟨(q.1 : Int), k.view + 1, k.commit, k.servers.map Sm.val⟩ := by
      unfold elected
      rw [if_pos (show k.val.primary < 0 from hp)]
      show Cv.mk (idxO (greatS (fun s => s.up) (k.servers.map Sm.val))) _ _ _ = _
      rw [hq]
      rfl
    refine ⟨q.1, p, by rw [hq, h2], by omega, hy, by rw [← h2] at h3; exact h3, ?_⟩
    rw [tick_go k.val (by show majN (k.servers.map Sm.val).length _ = true; rw [List.length_map, hl]; exact hm) (fun h => hv h.2) p.val (by
      rw [he]
      unfold primOf
      rw [if_neg (by show ¬ ((q.1 : Int) < 0); omega)]
      show (k.servers.map Sm.val)[((q.1 : Int)).toNat]? = _
      rw [Int.toNat_natCast, List.getElem?_map, hy]
      rfl), he]
    rfl
theorem bring_skip {V : Int} {lv : List En} {l U : List Sv} {k : Nat} {x : Sv} (h : U = (bringS V lv l).take k ++ l.drop k) (hx : U[k]? = some x) (hu : x.up = false) : U = (bringS V lv l).take (k + 1) ++ l.drop (k + 1) := by
  have hbl : (bringS V lv l).length = l.length := by unfold bringS; rw [List.length_map]
  have hk : k < l.length := by
    rcases Nat.lt_or_ge k l.length with h1 | h1
    · exact h1
    · have := (List.getElem?_eq_some_iff.1 hx).1
      rw [h, List.length_append, List.length_take, List.length_drop, hbl] at this
      omega
  have hx2 : l[k] = x := by
    rw [h, List.getElem?_append_right (by rw [List.length_take, hbl]; omega), List.length_take, hbl, Nat.min_eq_left (by omega), Nat.sub_self, List.getElem?_drop, Nat.add_zero, List.getElem?_eq_getElem hk] at hx
    injection hx
  rw [h, List.drop_eq_getElem_cons hk, List.take_succ_eq_append_getElem (by rw [hbl]; exact hk), List.append_assoc]
  congr 1
  show _ = [_] ++ _
  have : (bringS V lv l)[k]'(by rw [hbl]; exact hk) = l[k] := by
    unfold bringS
    rw [List.getElem_map, hx2, hu]
    rfl
  rw [this]
  rfl
theorem bring_up {V : Int} {lv : List En} {l U : List Sv} {k : Nat} {x : Sv} (h : U = (bringS V lv l).take k ++ l.drop k) (hx : U[k]? = some x) (hu : x.up = true) : U.set k ⟨true, V, lv⟩ = (bringS V lv l).take (k + 1) ++ l.drop (k + 1) := by
  have hbl : (bringS V lv l).length = l.length := by unfold bringS; rw [List.length_map]
  have hk : k < l.length := by
    rcases Nat.lt_or_ge k l.length with h1 | h1
    · exact h1
    · have := (List.getElem?_eq_some_iff.1 hx).1
      rw [h, List.length_append, List.length_take, List.length_drop, hbl] at this
      omega
  have htl : ((bringS V lv l).take k).length = k := by rw [List.length_take, hbl]; omega
  have hx2 : l[k] = x := by
    rw [h, List.getElem?_append_right (by rw [htl]; omega), htl, Nat.sub_self, List.getElem?_drop, Nat.add_zero, List.getElem?_eq_getElem hk] at hx
    injection hx
  rw [h, List.set_append_right _ _ (by rw [htl]; omega), htl, Nat.sub_self, List.drop_eq_getElem_cons hk, List.set_cons_zero, List.take_succ_eq_append_getElem (by rw [hbl]; exact hk), List.append_assoc]
  congr 1
  have : (bringS V lv l)[k]'(by rw [hbl]; exact hk) = ⟨true, V, lv⟩ := by
    unfold bringS
    rw [List.getElem_map, hx2, hu]
    rfl
  rw [this]
  rfl
/-- a cluster comes back -/
def ResT (Q : Nat → Prop) (w w' : World) (r : Cv) (e : Ending) : Prop := ∃ k', e = .returned (clV k') ∧ CmAt w' (fun b => Q b ∨ w.heap.size ≤ b) k' ∧ k'.val = r
def F22a (gx cu n c : Nat) (A : Option Addr) (cs : Array Value) (mj st : Bool) : Tmp → Value → World → Prop
  | 1, v, _ => v = .pointer (some ⟨gx, 0, none⟩)
  | 6, v, _ => v = .pointer (some ⟨gx, 3, none⟩)
  | 7, v, _ => v = .slice A n c
  | 8, v, _ => v = .int .i64 (n : Int)
  | 9, v, _ => v = .bool false
  | 10, v, _ => v = .bool false
  | 11, v, _ => v = .agg cs
  | 12, v, _ => v = .agg cs
  | 13, v, _ => v = .int .i64 (cu : Int)
  | 14, v, _ => v = .bool mj
  | 15, v, _ => v = .bool (!mj)
  | 16, v, _ => v = .bool (!mj)
  | 17, v, _ => v = .bool (!mj)
  | 18, v, _ => (mj = true → v = .agg cs)
  | 19, v, _ => (mj = true → v = .bool st)
  | 20, v, _ => v = .bool (!mj || st)
  | _, _, _ => True
theorem F22a_more {gx cu n c : Nat} {A : Option Addr} {cs : Array Value} {mj st : Bool} (d t : Tmp) (v : Value) (w w' : World) (hR : Rb w w') (hne : t ≠ d) (hc : ([] : List (Tmp × Tmp)).contains (d, t) = false) (h : F22a gx cu n c A cs mj st t v w) : F22a gx cu n c A cs mj st t v w' := by
  unfold F22a at *
  split at h <;> first | exact h
theorem F22a_lit (tm : Array Value) (hs : tm.size = 92) : tm = #[tm[0]?.getD undef, tm[1]?.getD undef, tm[2]?.getD undef, tm[3]?.getD undef, tm[4]?.getD undef, tm[5]?.getD undef, tm[6]?.getD undef, tm[7]?.getD undef, tm[8]?.getD undef, tm[9]?.getD undef, tm[10]?.getD undef, tm[11]?.getD undef, tm[12]?.getD undef, tm[13]?.getD undef, tm[14]?.getD undef, tm[15]?.getD undef, tm[16]?.getD undef, tm[17]?.getD undef, tm[18]?.getD undef, tm[19]?.getD undef, tm[20]?.getD undef, tm[21]?.getD undef, tm[22]?.getD undef, tm[23]?.getD undef, tm[24]?.getD undef, tm[25]?.getD undef, tm[26]?.getD undef, tm[27]?.getD undef, tm[28]?.getD undef, tm[29]?.getD undef, tm[30]?.getD undef, tm[31]?.getD undef, tm[32]?.getD undef, tm[33]?.getD undef, tm[34]?.getD undef, tm[35]?.getD undef, tm[36]?.getD undef, tm[37]?.getD undef, tm[38]?.getD undef, tm[39]?.getD undef, tm[40]?.getD undef, tm[41]?.getD undef, tm[42]?.getD undef, tm[43]?.getD undef, tm[44]?.getD undef, tm[45]?.getD undef, tm[46]?.getD undef, tm[47]?.getD undef, tm[48]?.getD undef, tm[49]?.getD undef, tm[50]?.getD undef, tm[51]?.getD undef, tm[52]?.getD undef, tm[53]?.getD undef, tm[54]?.getD undef, tm[55]?.getD undef, tm[56]?.getD undef, tm[57]?.getD undef, tm[58]?.getD undef, tm[59]?.getD undef, tm[60]?.getD undef, tm[61]?.getD undef, tm[62]?.getD undef, tm[63]?.getD undef, tm[64]?.getD undef, tm[65]?.getD undef, tm[66]?.getD undef, tm[67]?.getD undef, tm[68]?.getD undef, tm[69]?.getD undef, tm[70]?.getD undef, tm[71]?.getD undef, tm[72]?.getD undef, tm[73]?.getD undef, tm[74]?.getD undef, tm[75]?.getD undef, tm[76]?.getD undef, tm[77]?.getD undef, tm[78]?.getD undef, tm[79]?.getD undef, tm[80]?.getD undef, tm[81]?.getD undef, tm[82]?.getD undef, tm[83]?.getD undef, tm[84]?.getD undef, tm[85]?.getD undef, tm[86]?.getD undef, tm[87]?.getD undef, tm[88]?.getD undef, tm[89]?.getD undef, tm[90]?.getD undef, tm[91]?.getD undef] := lit_arr tm 92 hs
def F22b (g0 g9 g pj n cap c pn pc base : Nat) (ad : Addr) (pA : Option Addr) (lv : List En) : Tmp → Value → World → Prop
  | 1, v, _ => v = .pointer (some ⟨g0, 0, none⟩)
  | 3, v, _ => v = .pointer (some ⟨g9, 0, none⟩)
  | 42, v, _ => v = .pointer (some ⟨g9, 3, none⟩)
  | 43, v, _ => v = .slice (some ⟨g, 0, none⟩) n cap
  | 44, v, _ => v = .pointer (some ⟨g9, 0, none⟩)
  | 45, v, _ => v = .int .i64 (pj : Int)
  | 46, v, _ => v = .pointer (some ⟨g0, 3, none⟩)
  | 47, v, _ => v = .slice (some ad) n c
  | 48, v, _ => v = .pointer (some ⟨g9, 0, none⟩)
  | 49, v, _ => v = .int .i64 (pj : Int)
  | 50, v, _ => v = .pointer (some (ad.add (pj * 3)))
  | 51, v, _ => v = .pointer (some ⟨(ad.add (pj * 3)).block, (ad.add (pj * 3)).off + 2, none⟩)
  | 52, v, _ => v = .slice pA pn pc
  | 53, v, w => LogV base pn lv v w
  | 54, v, _ => v = .pointer (some ⟨g, pj * 3, none⟩)
  | 55, v, _ => v = .pointer (some ⟨g, pj * 3 + 2, none⟩)
  | _, _, _ => True
theorem F22b_more {g0 g9 g pj n cap c pn pc base : Nat} {ad : Addr} {pA : Option Addr} {lv : List En} (d t : Tmp) (v : Value) (w w' : World) (hR : Rb w w') (hne : t ≠ d) (hc : ([] : List (Tmp × Tmp)).contains (d, t) = false) (h : F22b g0 g9 g pj n cap c pn pc base ad pA lv t v w) : F22b g0 g9 g pj n cap c pn pc base ad pA lv t v w' := by
  unfold F22b at *
  split at h <;> first | exact h | exact LogV.more h hR | exact fun hg => LogV.more (h hg) hR
theorem F22b_lit (tm : Array Value) (hs : tm.size = 92) : tm = #[tm[0]?.getD undef, tm[1]?.getD undef, tm[2]?.getD undef, tm[3]?.getD undef, tm[4]?.getD undef, tm[5]?.getD undef, tm[6]?.getD undef, tm[7]?.getD undef, tm[8]?.getD undef, tm[9]?.getD undef, tm[10]?.getD undef, tm[11]?.getD undef, tm[12]?.getD undef, tm[13]?.getD undef, tm[14]?.getD undef, tm[15]?.getD undef, tm[16]?.getD undef, tm[17]?.getD undef, tm[18]?.getD undef, tm[19]?.getD undef, tm[20]?.getD undef, tm[21]?.getD undef, tm[22]?.getD undef, tm[23]?.getD undef, tm[24]?.getD undef, tm[25]?.getD undef, tm[26]?.getD undef, tm[27]?.getD undef, tm[28]?.getD undef, tm[29]?.getD undef, tm[30]?.getD undef, tm[31]?.getD undef, tm[32]?.getD undef, tm[33]?.getD undef, tm[34]?.getD undef, tm[35]?.getD undef, tm[36]?.getD undef, tm[37]?.getD undef, tm[38]?.getD undef, tm[39]?.getD undef, tm[40]?.getD undef, tm[41]?.getD undef, tm[42]?.getD undef, tm[43]?.getD undef, tm[44]?.getD undef, tm[45]?.getD undef, tm[46]?.getD undef, tm[47]?.getD undef, tm[48]?.getD undef, tm[49]?.getD undef, tm[50]?.getD undef, tm[51]?.getD undef, tm[52]?.getD undef, tm[53]?.getD undef, tm[54]?.getD undef, tm[55]?.getD undef, tm[56]?.getD undef, tm[57]?.getD undef, tm[58]?.getD undef, tm[59]?.getD undef, tm[60]?.getD undef, tm[61]?.getD undef, tm[62]?.getD undef, tm[63]?.getD undef, tm[64]?.getD undef, tm[65]?.getD undef, tm[66]?.getD undef, tm[67]?.getD undef, tm[68]?.getD undef, tm[69]?.getD undef, tm[70]?.getD undef, tm[71]?.getD undef, tm[72]?.getD undef, tm[73]?.getD undef, tm[74]?.getD undef, tm[75]?.getD undef, tm[76]?.getD undef, tm[77]?.getD undef, tm[78]?.getD undef, tm[79]?.getD undef, tm[80]?.getD undef, tm[81]?.getD undef, tm[82]?.getD undef, tm[83]?.getD undef, tm[84]?.getD undef, tm[85]?.getD undef, tm[86]?.getD undef, tm[87]?.getD undef, tm[88]?.getD undef, tm[89]?.getD undef, tm[90]?.getD undef, tm[91]?.getD undef] := lit_arr tm 92 hs
def F22c (g9 gp g n cap k xn xc base : Nat) (xA : Option Addr) (lv : List En) : Tmp → Value → World → Prop
  | 3, v, _ => v = .pointer (some ⟨g9, 0, none⟩)
  | 4, v, _ => v = .int .i64 (k : Int)
  | 5, v, _ => v = .pointer (some ⟨gp, 0, none⟩)
  | 73, v, _ => v = .pointer (some ⟨g9, 3, none⟩)
  | 74, v, _ => v = .slice (some ⟨g, 0, none⟩) n cap
  | 75, v, _ => v = .int .i64 (k : Int)
  | 76, v, _ => v = .pointer (some ⟨gp, 2, none⟩)
  | 77, v, _ => v = .slice xA xn xc
  | 78, v, w => LogV base xn lv v w
  | 79, v, _ => v = .pointer (some ⟨g, k * 3, none⟩)
  | 80, v, _ => v = .pointer (some ⟨g, k * 3 + 2, none⟩)
  | _, _, _ => True
theorem F22c_more {g9 gp g n cap k xn xc base : Nat} {xA : Option Addr} {lv : List En} (d t : Tmp) (v : Value) (w w' : World) (hR : Rb w w') (hne : t ≠ d) (hc : ([] : List (Tmp × Tmp)).contains (d, t) = false) (h : F22c g9 gp g n cap k xn xc base xA lv t v w) : F22c g9 gp g n cap k xn xc base xA lv t v w' := by
  unfold F22c at *
  split at h <;> first | exact h | exact LogV.more h hR | exact fun hg => LogV.more (h hg) hR
theorem F22c_lit (tm : Array Value) (hs : tm.size = 92) : tm = #[tm[0]?.getD undef, tm[1]?.getD undef, tm[2]?.getD undef, tm[3]?.getD undef, tm[4]?.getD undef, tm[5]?.getD undef, tm[6]?.getD undef, tm[7]?.getD undef, tm[8]?.getD undef, tm[9]?.getD undef, tm[10]?.getD undef, tm[11]?.getD undef, tm[12]?.getD undef, tm[13]?.getD undef, tm[14]?.getD undef, tm[15]?.getD undef, tm[16]?.getD undef, tm[17]?.getD undef, tm[18]?.getD undef, tm[19]?.getD undef, tm[20]?.getD undef, tm[21]?.getD undef, tm[22]?.getD undef, tm[23]?.getD undef, tm[24]?.getD undef, tm[25]?.getD undef, tm[26]?.getD undef, tm[27]?.getD undef, tm[28]?.getD undef, tm[29]?.getD undef, tm[30]?.getD undef, tm[31]?.getD undef, tm[32]?.getD undef, tm[33]?.getD undef, tm[34]?.getD undef, tm[35]?.getD undef, tm[36]?.getD undef, tm[37]?.getD undef, tm[38]?.getD undef, tm[39]?.getD undef, tm[40]?.getD undef, tm[41]?.getD undef, tm[42]?.getD undef, tm[43]?.getD undef, tm[44]?.getD undef, tm[45]?.getD undef, tm[46]?.getD undef, tm[47]?.getD undef, tm[48]?.getD undef, tm[49]?.getD undef, tm[50]?.getD undef, tm[51]?.getD undef, tm[52]?.getD undef, tm[53]?.getD undef, tm[54]?.getD undef, tm[55]?.getD undef, tm[56]?.getD undef, tm[57]?.getD undef, tm[58]?.getD undef, tm[59]?.getD undef, tm[60]?.getD undef, tm[61]?.getD undef, tm[62]?.getD undef, tm[63]?.getD undef, tm[64]?.getD undef, tm[65]?.getD undef, tm[66]?.getD undef, tm[67]?.getD undef, tm[68]?.getD undef, tm[69]?.getD undef, tm[70]?.getD undef, tm[71]?.getD undef, tm[72]?.getD undef, tm[73]?.getD undef, tm[74]?.getD undef, tm[75]?.getD undef, tm[76]?.getD undef, tm[77]?.getD undef, tm[78]?.getD undef, tm[79]?.getD undef, tm[80]?.getD undef, tm[81]?.getD undef, tm[82]?.getD undef, tm[83]?.getD undef, tm[84]?.getD undef, tm[85]?.getD undef, tm[86]?.getD undef, tm[87]?.getD undef, tm[88]?.getD undef, tm[89]?.getD undef, tm[90]?.getD undef, tm[91]?.getD undef] := lit_arr tm 92 hs
set_option maxRecDepth 100000 in
set_option maxHeartbeats 8000000 in
theorem tick_any (k : Cm) (w : World) {Q : Nat → Prop} (h : CmAt w Q k) (hs : CmSm2 k) (hp1 : k.primary < k.n) (hv : 1 ≤ k.view ∧ k.view ≤ 2147483647) (hpup0 : ∀ p, primOf k.val = some p → p.up = true) :
    Calls Try.prog 22 #[clV k] w fun e w' => ResT Q w w' (tickC k.val) e ∧ Below w.heap.size w w' := by
  obtain ⟨r, hr⟩ : ∃ r, r = tickC k.val := ⟨_, rfl⟩
  rw [← hr]
  have hl : Hid (k.servers.length = k.n) := h.len
  have hcm := Lib.hid h.lt
  have hv1 := Lib.hid hv
  have hpup := Lib.hid hpup0
  have hp1n := Lib.hid hp1
  obtain ⟨cu, hcu0⟩ : ∃ cu, cu = countUp (k.servers.map Sm.val) := ⟨_, rfl⟩
  obtain ⟨mj, hmj0⟩ : ∃ mj, mj = majN k.n cu := ⟨_, rfl⟩
  obtain ⟨st, hst0⟩ : ∃ st, st = settledC k.val := ⟨_, rfl⟩
  have hno0 : (!mj || st) = true → tickC k.val = k.val := by
    intro hb
    rw [Bool.or_eq_true] at hb
    rcases hb with hb | hb
    · refine tick_no _ ?_
      show majN (k.servers.map Sm.val).length (countUp (k.servers.map Sm.val)) = false
      rw [List.length_map, hl.out, ← hcu0, ← hmj0]
      simpa using hb
    · exact tick_settled _ (by rw [← hst0]; exact hb)
  have hmaj0 : (!mj || st) = false → majN k.n (countUp (k.servers.map Sm.val)) = true := by
    intro hb
    simp only [Bool.or_eq_false_iff, Bool.not_eq_false'] at hb
    rw [← hcu0, ← hmj0]
    exact hb.1
  have hcu : Hid (∀ wz, Below w.heap.size w wz → Calls Try.prog 44 #[clV k] wz fun e w' => e = .returned (.int .i64 (cu : Int)) ∧ Below wz.heap.size wz w') := fun wz hz => by rw [hcu0]; exact countUp_any k wz (h.more hz) hs.2.1
  have hmj : Hid (∀ wz, Calls Try.prog 43 #[clV k, .int .i64 (cu : Int)] wz fun e w' => e = .returned (.bool mj) ∧ Below wz.heap.size wz w') := fun wz => by rw [hmj0]; exact majority_any k cu wz hs.2.1
  have hst : Hid (∀ wz, Below w.heap.size w wz → Calls Try.prog 45 #[clV k] wz fun e w' => e = .returned (.bool st) ∧ Below wz.heap.size wz w') := fun wz hz => by rw [hst0]; exact settled_any k wz (h.more hz) hs hp1
  have hhp := Lib.hid (fun wz => hasPrimary_any k wz)
  obtain ⟨hn1, hn7, hsm⟩ := hs
  clear hcu0 hmj0 hst0 h hpup0 hp1 hv
  have hno := Lib.hid hno0
  have hmaj := Lib.hid hmaj0
  clear hno0 hmaj0
  replace hr := Lib.hid hr
  replace hsm := Lib.hid hsm
  obtain ⟨primary, view, commit, A, n, c, sl⟩ := k
  simp only [clV] at *
  have hx0 := Lib.hid ((Blk.new w 24 #[Value.int .i64 primary, Value.int .i64 view, Value.int .i64 commit, Value.slice A n c]).alloc (.cells #[Value.int .i64 0, Value.int .i64 0, Value.int .i64 0, Value.slice none 0 0] 24))
  have hz0 := Blk.new (w.alloc (.cells #[Value.int .i64 primary, Value.int .i64 view, Value.int .i64 commit, Value.slice A n c] 24)) 24 #[Value.int .i64 0, Value.int .i64 0, Value.int .i64 0, Value.slice none 0 0]
  rw [show (w.alloc (.cells #[Value.int .i64 primary, Value.int .i64 view, Value.int .i64 commit, Value.slice A n c] 24)).heap.size = w.heap.size + 1 by simp] at hz0
  replace hz0 := Lib.hid hz0
  have hb0 : Hid (Below w.heap.size w ((w.alloc (.cells #[Value.int .i64 primary, Value.int .i64 view, Value.int .i64 commit, Value.slice A n c] 24)).alloc (.cells #[Value.int .i64 0, Value.int .i64 0, Value.int .i64 0, Value.slice none 0 0] 24))) := (a1 w _).alloc (by simp) _
  have hcc : Hid (∀ wz, Below ((w.alloc (.cells #[Value.int .i64 primary, Value.int .i64 view, Value.int .i64 commit, Value.slice A n c] 24)).alloc (.cells #[Value.int .i64 0, Value.int .i64 0, Value.int .i64 0, Value.slice none 0 0] 24)).heap.size ((w.alloc (.cells #[Value.int .i64 primary, Value.int .i64 view, Value.int .i64 commit, Value.slice A n c] 24)).alloc (.cells #[Value.int .i64 0, Value.int .i64 0, Value.int .i64 0, Value.slice none 0 0] 24)) wz → wz.cell? ⟨w.heap.size, 0, none⟩ = some (Value.int .i64 primary) ∧ wz.cell? ⟨w.heap.size, 1, none⟩ = some (Value.int .i64 view) ∧ wz.cell? ⟨w.heap.size, 2, none⟩ = some (Value.int .i64 commit) ∧ wz.cell? ⟨w.heap.size, 3, none⟩ = some (Value.slice A n c)) := fun wz hz => by
    have q := hx0.out.below hz hx0.out.lt
    exact ⟨q.cell 0, q.cell 1, q.cell 2, q.cell 3⟩
  replace hcu : Hid (∀ wz, Below ((w.alloc (.cells #[Value.int .i64 primary, Value.int .i64 view, Value.int .i64 commit, Value.slice A n c] 24)).alloc (.cells #[Value.int .i64 0, Value.int .i64 0, Value.int .i64 0, Value.slice none 0 0] 24)).heap.size ((w.alloc (.cells #[Value.int .i64 primary, Value.int .i64 view, Value.int .i64 commit, Value.slice A n c] 24)).alloc (.cells #[Value.int .i64 0, Value.int .i64 0, Value.int .i64 0, Value.slice none 0 0] 24)) wz → Calls Try.prog 44 #[.agg #[Value.int .i64 primary, Value.int .i64 view, Value.int .i64 commit, Value.slice A n c]] wz fun e w' => e = .returned (.int .i64 (cu : Int)) ∧ Below wz.heap.size wz w') := fun wz hz => hcu.out wz (hb0.out.trans (hz.mono hb0.out.size))
  replace hst : Hid (∀ wz, Below ((w.alloc (.cells #[Value.int .i64 primary, Value.int .i64 view, Value.int .i64 commit, Value.slice A n c] 24)).alloc (.cells #[Value.int .i64 0, Value.int .i64 0, Value.int .i64 0, Value.slice none 0 0] 24)).heap.size ((w.alloc (.cells #[Value.int .i64 primary, Value.int .i64 view, Value.int .i64 commit, Value.slice A n c] 24)).alloc (.cells #[Value.int .i64 0, Value.int .i64 0, Value.int .i64 0, Value.slice none 0 0] 24)) wz → Calls Try.prog 45 #[.agg #[Value.int .i64 primary, Value.int .i64 view, Value.int .i64 commit, Value.slice A n c]] wz fun e w' => e = .returned (.bool st) ∧ Below wz.heap.size wz w') := fun wz hz => hst.out wz (hb0.out.trans (hz.mono hb0.out.size))
  go_enter Try.func22, Try.ntmps22
  go_wp2_with fail
  refine RM.region [] [] (F := F22a w.heap.size cu n c A #[Value.int .i64 primary, Value.int .i64 view, Value.int .i64 commit, Value.slice A n c] mj st) (W := fun wz => Below ((w.alloc (.cells #[Value.int .i64 primary, Value.int .i64 view, Value.int .i64 commit, Value.slice A n c] 24)).alloc (.cells #[Value.int .i64 0, Value.int .i64 0, Value.int .i64 0, Value.slice none 0 0] 24)).heap.size ((w.alloc (.cells #[Value.int .i64 primary, Value.int .i64 view, Value.int .i64 commit, Value.slice A n c] 24)).alloc (.cells #[Value.int .i64 0, Value.int .i64 0, Value.int .i64 0, Value.slice none 0 0] 24)) wz) (R := fun _ => Rb) (S := noS) (G := noG) rfl F22a_more (fun _ _ _ _ _ _ _ => trivial) (fun _ _ _ _ _ h => h.elim) (fun _ _ _ _ _ h => h.elim) (by kernel_rfl) (by kernel_rfl) (by kernel_rfl) (by kernel_rfl) (by kernel_rfl) ?_ ?_ ?_ (by kernel_rfl) ?_
  · exact (Below.refl _ _).drew
  · intro t ht
    unfold F22a
    split <;> first | trivial | exact rfl | (exact absurd ht (by decide))
  · simp only [List.forall_mem_cons, List.not_mem_nil, false_implies, implies_true, and_true]
    refine ⟨?_, ?_, ?_, ?_, ?_, ?_, ?_, ?_, ?_, ?_, ?_, ?_, ?_, ?_, ?_⟩
    · intro a w2 hw _ hf K hK
      have f0 := hf 1 rfl
      simp only [F22a] at f0
      clear hf
      go_simp
      exact hK _ _ _ rfl rfl hw (Below.refl _ _) (fun h => absurd h (by decide))
    · intro a w2 hw _ hf K hK
      have f0 := hf 6 rfl
      simp only [F22a] at f0
      clear hf
      obtain ⟨c0, c1, c2, c3⟩ := hcc.out w2 hw
      go_simp
      exact hK _ _ _ rfl rfl hw (Below.refl _ _) (fun h => absurd h (by decide))
    · intro a w2 hw _ hf K hK
      have f0 := hf 7 rfl
      simp only [F22a] at f0
      clear hf
      go_simp
      exact hK _ _ _ rfl rfl hw (Below.refl _ _) (fun h => absurd h (by decide))
    · intro a w2 hw _ hf K hK
      have f0 := hf 8 rfl
      simp only [F22a] at f0
      clear hf
      go_simp
      exact hK _ _ _ rfl (by show _ = _; first | rfl | (congr 1; exact beq_eq_false_iff_ne.2 (by omega)) | (congr 1; simp; omega)) hw (Below.refl _ _) (fun h => absurd h (by decide))
    · intro a w2 hw _ hf K hK
      have f0 := hf 9 rfl
      simp only [F22a] at f0
      clear hf
      go_simp
      exact hK _ _ _ rfl rfl hw (Below.refl _ _) (fun h => absurd h (by decide))
    · refine ⟨?_, ?_⟩
      · intro a w2 hw hg hf K hK
        have f0 := hf 1 rfl
        simp only [F22a] at f0
        clear hf
        obtain ⟨c0, c1, c2, c3⟩ := hcc.out w2 hw
        go_simp
        exact hK _ _ _ rfl rfl hw (Below.refl _ _) (fun h => absurd h (by decide))
      · exact fun v w _ hv hne => absurd hv hne
    · refine ⟨?_, ?_⟩
      · intro a w2 hw hg hf K hK
        have f0 := hf 1 rfl
        simp only [F22a] at f0
        clear hf
        obtain ⟨c0, c1, c2, c3⟩ := hcc.out w2 hw
        go_simp
        exact hK _ _ _ rfl rfl hw (Below.refl _ _) (fun h => absurd h (by decide))
      · exact fun v w _ hv hne => absurd hv hne
    · refine ⟨?_, ?_⟩
      · intro a w2 hw hg hf K hK
        have f0 := hf 12 rfl
        simp only [F22a] at f0
        clear hf
        go_simp
        refine (hcu.out w2 hw).mono ?_; rintro e w5 ⟨rfl, hbq⟩
        exact hK _ _ _ rfl rfl (hw.trans (hbq.mono hw.size)) hbq (fun h => absurd h (by decide))
      · exact fun v w _ hv hne => absurd hv hne
    · refine ⟨?_, ?_⟩
      · intro a w2 hw hg hf K hK
        have f0 := hf 11 rfl
        have f1 := hf 13 rfl
        simp only [F22a] at f0 f1
        clear hf
        go_simp
        refine (hmj.out w2).mono ?_; rintro e w5 ⟨rfl, hbq⟩
        exact hK _ _ _ rfl rfl (hw.trans (hbq.mono hw.size)) hbq (fun h => absurd h (by decide))
      · exact fun v w _ hv hne => absurd hv hne
    · refine ⟨?_, ?_⟩
      · intro a w2 hw hg hf K hK
        have f0 := hf 14 rfl
        simp only [F22a] at f0
        clear hf
        go_simp
        exact hK _ _ _ rfl rfl hw (Below.refl _ _) (fun h => absurd h (by decide))
      · exact fun v w _ hv hne => absurd hv hne
    · intro a w2 hw _ hf K hK
      have f0 := hf 10 rfl
      have f1 := hf 15 rfl
      simp only [F22a] at f0 f1
      clear hf
      go_simp
      exact hK _ _ _ rfl rfl hw (Below.refl _ _) (fun h => absurd h (by decide))
    · intro a w2 hw _ hf K hK
      have f0 := hf 16 rfl
      simp only [F22a] at f0
      clear hf
      go_simp
      exact hK _ _ _ rfl rfl hw (Below.refl _ _) (fun h => absurd h (by decide))
    · refine ⟨?_, ?_⟩
      · intro a w2 hw hg hf K hK
        have f0 := hf 1 rfl
        simp only [F22a] at f0
        simp only [F22a] at hg
        have hg : mj = true := by have := Value.bool.inj hg; cases mj with
          | true => rfl
          | false => cases this
        clear hf
        clear hg
        obtain ⟨c0, c1, c2, c3⟩ := hcc.out w2 hw
        go_simp
        exact hK _ _ _ rfl (fun _ => rfl) hw (Below.refl _ _) (fun h => absurd h (by decide))
      · intro v w _ hv hne; simp only [F22a] at hv ⊢; intro h; rw [h] at hv; exact absurd hv hne
    · refine ⟨?_, ?_⟩
      · intro a w2 hw hg hf K hK
        have f0 := hf 18 rfl
        simp only [F22a] at f0
        simp only [F22a] at hg
        have hg : mj = true := by have := Value.bool.inj hg; cases mj with
          | true => rfl
          | false => cases this
        clear hf
        replace f0 := f0 hg
        clear hg
        go_simp
        refine (hst.out w2 hw).mono ?_; rintro e w5 ⟨rfl, hbq⟩
        exact hK _ _ _ rfl (fun _ => rfl) (hw.trans (hbq.mono hw.size)) hbq (fun h => absurd h (by decide))
      · intro v w _ hv hne; simp only [F22a] at hv ⊢; intro h; rw [h] at hv; exact absurd hv hne
    · intro a w2 hw _ hf K hK
      have f0 := hf 17 rfl
      have f1 := hf 19 rfl
      simp only [F22a] at f0 f1
      clear hf
      cases mj with
      | false =>
        go_simp
        exact hK _ _ _ rfl rfl hw (Below.refl _ _) (fun h => absurd h (by decide))
      | true =>
        replace f1 := f1 rfl
        go_simp
        exact hK _ _ _ rfl rfl hw (Below.refl _ _) (fun h => absurd h (by decide))
  · intro a' w1 hd hs hw hout hf _
    have h20 := hf 20 rfl
    simp only [F22a] at h20
    have e0 : _ = some (Value.agg #[Value.int .i64 primary, Value.int .i64 view, Value.int .i64 commit, Value.slice A n c]) := hout 0 rfl
    have e1 : _ = some (Value.pointer (some ⟨w.heap.size, 0, none⟩)) := hout 1 rfl
    have e2 : _ = some (Value.pointer (some ⟨w.heap.size + 1, 0, none⟩)) := hout 2 rfl
    have e3 : _ = some (undef) := hout 3 rfl
    have e4 : _ = some (undef) := hout 4 rfl
    have e5 : _ = some (undef) := hout 5 rfl
    have e21 : _ = some (undef) := hout 21 rfl
    have e22 : _ = some (undef) := hout 22 rfl
    have e23 : _ = some (undef) := hout 23 rfl
    have e24 : _ = some (undef) := hout 24 rfl
    have e25 : _ = some (undef) := hout 25 rfl
    have e26 : _ = some (undef) := hout 26 rfl
    have e27 : _ = some (undef) := hout 27 rfl
    have e28 : _ = some (undef) := hout 28 rfl
    have e29 : _ = some (undef) := hout 29 rfl
    have e30 : _ = some (undef) := hout 30 rfl
    have e31 : _ = some (undef) := hout 31 rfl
    have e32 : _ = some (undef) := hout 32 rfl
    have e33 : _ = some (undef) := hout 33 rfl
    have e34 : _ = some (undef) := hout 34 rfl
    have e35 : _ = some (undef) := hout 35 rfl
    have e36 : _ = some (undef) := hout 36 rfl
    have e37 : _ = some (undef) := hout 37 rfl
    have e38 : _ = some (undef) := hout 38 rfl
    have e39 : _ = some (undef) := hout 39 rfl
    have e40 : _ = some (undef) := hout 40 rfl
    have e41 : _ = some (undef) := hout 41 rfl
    have e42 : _ = some (undef) := hout 42 rfl
    have e43 : _ = some (undef) := hout 43 rfl
    have e44 : _ = some (undef) := hout 44 rfl
    have e45 : _ = some (undef) := hout 45 rfl
    have e46 : _ = some (undef) := hout 46 rfl
    have e47 : _ = some (undef) := hout 47 rfl
    have e48 : _ = some (undef) := hout 48 rfl
    have e49 : _ = some (undef) := hout 49 rfl
    have e50 : _ = some (undef) := hout 50 rfl
    have e51 : _ = some (undef) := hout 51 rfl
    have e52 : _ = some (undef) := hout 52 rfl
    have e53 : _ = some (undef) := hout 53 rfl
    have e54 : _ = some (undef) := hout 54 rfl
    have e55 : _ = some (undef) := hout 55 rfl
    have e56 : _ = some (undef) := hout 56 rfl
    have e57 : _ = some (undef) := hout 57 rfl
    have e58 : _ = some (undef) := hout 58 rfl
    have e59 : _ = some (undef) := hout 59 rfl
    have e60 : _ = some (undef) := hout 60 rfl
    have e61 : _ = some (undef) := hout 61 rfl
    have e62 : _ = some (undef) := hout 62 rfl
    have e63 : _ = some (undef) := hout 63 rfl
    have e64 : _ = some (undef) := hout 64 rfl
    have e65 : _ = some (undef) := hout 65 rfl
    have e66 : _ = some (undef) := hout 66 rfl
    have e67 : _ = some (undef) := hout 67 rfl
    have e68 : _ = some (undef) := hout 68 rfl
    have e69 : _ = some (undef) := hout 69 rfl
    have e70 : _ = some (undef) := hout 70 rfl
    have e71 : _ = some (undef) := hout 71 rfl
    have e72 : _ = some (undef) := hout 72 rfl
    have e73 : _ = some (undef) := hout 73 rfl
    have e74 : _ = some (undef) := hout 74 rfl
    have e75 : _ = some (undef) := hout 75 rfl
    have e76 : _ = some (undef) := hout 76 rfl
    have e77 : _ = some (undef) := hout 77 rfl
    have e78 : _ = some (undef) := hout 78 rfl
    have e79 : _ = some (undef) := hout 79 rfl
    have e80 : _ = some (undef) := hout 80 rfl
    have e81 : _ = some (undef) := hout 81 rfl
    have e82 : _ = some (undef) := hout 82 rfl
    have e83 : _ = some (undef) := hout 83 rfl
    have e84 : _ = some (undef) := hout 84 rfl
    have e85 : _ = some (undef) := hout 85 rfl
    have e86 : _ = some (undef) := hout 86 rfl
    have e87 : _ = some (undef) := hout 87 rfl
    have e88 : _ = some (undef) := hout 88 rfl
    have e89 : _ = some (undef) := hout 89 rfl
    have e90 : _ = some (undef) := hout 90 rfl
    have e91 : _ = some (undef) := hout 91 rfl
    obtain ⟨tm, df⟩ := a'
    simp only at hd hs h20 e0 e1 e2 e3 e4 e5 e21 e22 e23 e24 e25 e26 e27 e28 e29 e30 e31 e32 e33 e34 e35 e36 e37 e38 e39 e40 e41 e42 e43 e44 e45 e46 e47 e48 e49 e50 e51 e52 e53 e54 e55 e56 e57 e58 e59 e60 e61 e62 e63 e64 e65 e66 e67 e68 e69 e70 e71 e72 e73 e74 e75 e76 e77 e78 e79 e80 e81 e82 e83 e84 e85 e86 e87 e88 e89 e90 e91
    have e := F22a_lit tm hs
    simp only [h20, e0, e1, e2, e3, e4, e5, e21, e22, e23, e24, e25, e26, e27, e28, e29, e30, e31, e32, e33, e34, e35, e36, e37, e38, e39, e40, e41, e42, e43, e44, e45, e46, e47, e48, e49, e50, e51, e52, e53, e54, e55, e56, e57, e58, e59, e60, e61, e62, e63, e64, e65, e66, e67, e68, e69, e70, e71, e72, e73, e74, e75, e76, e77, e78, e79, e80, e81, e82, e83, e84, e85, e86, e87, e88, e89, e90, e91, Option.getD_some] at e
    clear hf hout hs
    rw [e, hd]
    clear e hd h20 e0 e1 e2 e3 e4 e5 e21 e22 e23 e24 e25 e26 e27 e28 e29 e30 e31 e32 e33 e34 e35 e36 e37 e38 e39 e40 e41 e42 e43 e44 e45 e46 e47 e48 e49 e50 e51 e52 e53 e54 e55 e56 e57 e58 e59 e60 e61 e62 e63 e64 e65 e66 e67 e68 e69 e70 e71 e72 e73 e74 e75 e76 e77 e78 e79 e80 e81 e82 e83 e84 e85 e86 e87 e88 e89 e90 e91
    generalize tm[6]?.getD undef = u6x, tm[7]?.getD undef = u7x, tm[8]?.getD undef = u8x, tm[9]?.getD undef = u9x, tm[10]?.getD undef = u10x, tm[11]?.getD undef = u11x, tm[12]?.getD undef = u12x, tm[13]?.getD undef = u13x, tm[14]?.getD undef = u14x, tm[15]?.getD undef = u15x, tm[16]?.getD undef = u16x, tm[17]?.getD undef = u17x, tm[18]?.getD undef = u18x, tm[19]?.getD undef = u19x
    have hX1 := Lib.hid (hx0.out.below hw hx0.out.lt)
    have hZ1 := Lib.hid (hz0.out.below hw hz0.out.lt)
    have hb1 := Lib.hid (hb0.out.trans (hw.mono hb0.out.size))
    clear hw hcc hcu hmj hst hx0 hz0 hb0
    cases hbt : (!mj || st) with
    | true =>
      have hF : Hid (r = ⟨primary, view, commit, sl.map Sm.val⟩) := by show _ = _; rw [hr.out]; exact hno.out hbt
      obtain ⟨k0, k1, k2, k3⟩ := cells4 (w1) (w.heap.size) (Value.int .i64 primary) (Value.int .i64 view) (Value.int .i64 commit) (Value.slice A n c) (hX1.out)
      obtain ⟨u0, u1, u2, u3, y0, y1, y2, y3⟩ := cells4z (w1) ((w.heap.size + 1)) (Value.int .i64 0) (Value.int .i64 0) (Value.int .i64 0) (Value.slice none 0 0) (hZ1.out)
      go_wp2_with fail
      (try simp only [Exit.inBlock, Exit.then])
      have hBF := cl_set4 hZ1.out (Value.int .i64 primary) (Value.int .i64 view) (Value.int .i64 commit) (Value.slice A n c)
      have hbF := below_set4 hb1.out (Nat.le_succ _) (Value.int .i64 primary) (Value.int .i64 view) (Value.int .i64 commit) (Value.slice A n c)
      have hgF := grown_set4 (w1) (w.heap.size + 1) (Value.int .i64 primary) (Value.int .i64 view) (Value.int .i64 commit) (Value.slice A n c)
      refine bodyPost_ret (v := .agg #[Value.int .i64 primary, Value.int .i64 view, Value.int .i64 commit, Value.slice A n c]) ?_ rfl ?_
      · exact results_cell_row (h := rfl) _ _ (w.heap.size + 1) 24 _ (0, 0) _ rfl hBF Try.underlying24 rfl (by kernel_rfl)
      clear hBF
      generalize ((((w1.setCell ⟨(w.heap.size + 1), 0, none⟩ (Value.int .i64 primary)).setCell ⟨(w.heap.size + 1), 1, none⟩ (Value.int .i64 view)).setCell ⟨(w.heap.size + 1), 2, none⟩ (Value.int .i64 commit)).setCell ⟨(w.heap.size + 1), 3, none⟩ (Value.slice A n c)) = wF at *
      exact ⟨⟨⟨primary, view, commit, A, n, c, sl⟩, rfl, ((hcm.out.more hb1.out).st hgF (fun b hb e => by injection e with e; have := hb.2; omega)).imp (fun b hb => Or.inl hb.1), by rw [hF.out]; rfl⟩, hbF⟩
    | false =>
      have hmjt := Lib.hid (hmaj.out hbt)
      clear hno hmaj
      obtain ⟨ad, hA, -, -, -, -⟩ := sv_cells hcm.out.at_ (show 0 < n by omega)
      (try simp only at hA)
      subst hA
      have hx5 := Lib.hid (hX1.out.alloc (.cells #[Value.int .i64 primary, Value.int .i64 view, Value.int .i64 commit, Value.slice (some ad) n c] 24))
      have hz5 := Lib.hid (hZ1.out.alloc (.cells #[Value.int .i64 primary, Value.int .i64 view, Value.int .i64 commit, Value.slice (some ad) n c] 24))
      have hn5 := Lib.hid (Blk.new w1 24 #[Value.int .i64 primary, Value.int .i64 view, Value.int .i64 commit, Value.slice (some ad) n c])
      have hb5a : Hid (Below w.heap.size w (w1.alloc (.cells #[Value.int .i64 primary, Value.int .i64 view, Value.int .i64 commit, Value.slice (some ad) n c] 24))) := hb1.out.alloc hb1.out.size _
      obtain ⟨k0, k1, k2, k3⟩ := cells4 (w1) (w.heap.size) (Value.int .i64 primary) (Value.int .i64 view) (Value.int .i64 commit) (Value.slice (some ad) n c) (hX1.out)
      obtain ⟨m0, m1, m2, m3⟩ := cells4 ((w1.alloc (.cells #[Value.int .i64 primary, Value.int .i64 view, Value.int .i64 commit, Value.slice (some ad) n c] 24))) (w.heap.size) (Value.int .i64 primary) (Value.int .i64 view) (Value.int .i64 commit) (Value.slice (some ad) n c) (hx5.out)
      go_wp2_with fail
      clear k0 k1 k2 k3 m0 m1 m2 m3
      obtain ⟨g9, hg9⟩ : ∃ g9, g9 = w1.heap.size := ⟨_, rfl⟩
      rw [← hg9] at hn5
      try rw [← hg9]
      have hg9w : Hid (w.heap.size + 1 < g9) := by show w.heap.size + 1 < g9; have := hZ1.out.lt; omega
      refine (hhp.out _).mono ?_; rintro e w5 ⟨rfl, hq⟩
      have hX5 := Lib.hid (hx5.out.below hq hx5.out.lt)
      have hZ5 := Lib.hid (hz5.out.below hq hz5.out.lt)
      have hN5 := Lib.hid (hn5.out.below hq hn5.out.lt)
      have hb5 := Lib.hid (hb5a.out.trans (hq.mono hb5a.out.size))
      clear hq hhp hx5 hz5 hn5 hX1 hZ1 hb1 hb5a
      replace hg9 := Lib.hid hg9
      by_cases q0 : primary < 0
      · rw [show hasP ⟨primary, view, commit, (some ad), n, c, sl⟩ = false from hasP_neg q0]
        by_cases q1 : 2147483647 ≤ view
        · have q1d : decide (2147483647 ≤ view) = true := by simpa using q1
          have hF : Hid (r = ⟨primary, view, commit, sl.map Sm.val⟩) := by show _ = _; rw [hr.out]; exact tick_end _ ⟨q0, q1⟩
          obtain ⟨k0, k1, k2, k3⟩ := cells4 (w5) (w.heap.size) (Value.int .i64 primary) (Value.int .i64 view) (Value.int .i64 commit) (Value.slice (some ad) n c) (hX5.out)
          obtain ⟨u0, u1, u2, u3, y0, y1, y2, y3⟩ := cells4z (w5) ((w.heap.size + 1)) (Value.int .i64 0) (Value.int .i64 0) (Value.int .i64 0) (Value.slice none 0 0) (hZ5.out)
          go_wp2_with fail
          (try simp only [Exit.inBlock, Exit.then])
          have hBF := cl_set4 hZ5.out (Value.int .i64 primary) (Value.int .i64 view) (Value.int .i64 commit) (Value.slice (some ad) n c)
          have hbF := below_set4 hb5.out (Nat.le_succ _) (Value.int .i64 primary) (Value.int .i64 view) (Value.int .i64 commit) (Value.slice (some ad) n c)
          have hgF := grown_set4 (w5) (w.heap.size + 1) (Value.int .i64 primary) (Value.int .i64 view) (Value.int .i64 commit) (Value.slice (some ad) n c)
          refine bodyPost_ret (v := .agg #[Value.int .i64 primary, Value.int .i64 view, Value.int .i64 commit, Value.slice (some ad) n c]) ?_ rfl ?_
          · exact results_cell_row (h := rfl) _ _ (w.heap.size + 1) 24 _ (0, 0) _ rfl hBF Try.underlying24 rfl (by kernel_rfl)
          clear hBF
          generalize ((((w5.setCell ⟨(w.heap.size + 1), 0, none⟩ (Value.int .i64 primary)).setCell ⟨(w.heap.size + 1), 1, none⟩ (Value.int .i64 view)).setCell ⟨(w.heap.size + 1), 2, none⟩ (Value.int .i64 commit)).setCell ⟨(w.heap.size + 1), 3, none⟩ (Value.slice (some ad) n c)) = wF at *
          exact ⟨⟨⟨primary, view, commit, (some ad), n, c, sl⟩, rfl, ((hcm.out.more hb5.out).st hgF (fun b hb e => by injection e with e; have := hb.2; omega)).imp (fun b hb => Or.inl hb.1), by rw [hF.out]; rfl⟩, hbF⟩
        · have q1d : decide (2147483647 ≤ view) = false := by simpa using q1
          obtain ⟨pj, p, hpg, hpn, hpo0, hpu0, hF0⟩ := tick_elect ⟨primary, view, commit, some ad, n, c, sl⟩ hl.out hmjt.out q0 q1
          have hF : Hid (r = ⟨(pj : Int), view + 1, ((p.log.map Em.val).length : Int), bringS (view + 1) (p.log.map Em.val) (sl.map Sm.val)⟩) := by show _ = _; rw [hr.out]; exact hF0
          have hpo : Hid (sl[pj]? = some p) := hpo0
          have hpu := Lib.hid hpu0
          clear hF0 hpo0 hpu0
          have hgr := greatU_any (fun s => s.up) (fun s w => isUp_any s w) (some ad) n c sl
          have hvw : IntKind.i64.wrap (view + 1) = view + 1 := IntWalk.i64_in _ (by have := hv1.out; omega)
          have hg6 : Hid (w5.grownBy (w5.setCell ⟨g9, 1, none⟩ (Value.int .i64 (view + 1))) (some g9)) := only_set (World.grownBy.refl _ _) _ _
          have hN6 := Lib.hid (hN5.out.set_ 1 (Value.int .i64 (view + 1)))
          have hX6 := Lib.hid (hX5.out.grown hg6.out (by intro e; injection e with e; have := hg9w.out; omega))
          have hZ6 := Lib.hid (hZ5.out.grown hg6.out (by intro e; injection e with e; have := hg9w.out; omega))
          have hb6 := Lib.hid (below_set hb5.out (show w.heap.size ≤ g9 by have := hg9w.out; omega) 1 (Value.int .i64 (view + 1)))
          have hgr := Lib.hid (hgr (w5.setCell ⟨g9, 1, none⟩ (Value.int .i64 (view + 1))) (hcm.out.at_.more hb6.out) (fun s hs => (hcm.out.els s hs).len) (by omega))
          rw [hpg] at hgr
          simp only [idxO] at hgr
          obtain ⟨k0, k1, k2, k3⟩ := cells4 (w5) (w.heap.size) (Value.int .i64 primary) (Value.int .i64 view) (Value.int .i64 commit) (Value.slice (some ad) n c) (hX5.out)
          obtain ⟨q0, q1, q2, q3, x0, x1, x2, x3⟩ := cells4z (w5) (g9) (Value.int .i64 primary) (Value.int .i64 view) (Value.int .i64 commit) (Value.slice (some ad) n c) (hN5.out)
          obtain ⟨m0, m1, m2, m3⟩ := cells4 ((w5.setCell ⟨g9, 1, none⟩ (Value.int .i64 (view + 1)))) (w.heap.size) (Value.int .i64 primary) (Value.int .i64 view) (Value.int .i64 commit) (Value.slice (some ad) n c) (hX6.out)
          clear hg6
          go_wp2_with fail
          refine hgr.out.mono ?_; rintro e w7 ⟨rfl, hq⟩
          have hX7 := Lib.hid (hX6.out.below hq hX6.out.lt)
          have hZ7 := Lib.hid (hZ6.out.below hq hZ6.out.lt)
          have hN7 := Lib.hid (hN6.out.below hq hN6.out.lt)
          have hb7 := Lib.hid (hb6.out.trans (hq.mono hb6.out.size))
          clear hq hgr hX6 hZ6 hN6 hb6 hX5 hZ5 hN5 hb5 k0 k1 k2 k3 q0 q1 q2 q3 x0 x1 x2 x3 m0 m1 m2 m3
          obtain ⟨q0, q1, q2, q3, x0, x1, x2, x3⟩ := cells4z (w7) (g9) (Value.int .i64 primary) (Value.int .i64 (view + 1)) (Value.int .i64 commit) (Value.slice (some ad) n c) (hN7.out)
          obtain ⟨k0, k1, k2, k3⟩ := cells4 (w7) (w.heap.size) (Value.int .i64 primary) (Value.int .i64 view) (Value.int .i64 commit) (Value.slice (some ad) n c) (hX7.out)
          have hg8 : Hid (w7.grownBy (w7.setCell ⟨g9, 0, none⟩ (Value.int .i64 (pj : Int))) (some g9)) := only_set (World.grownBy.refl _ _) _ _
          have hN8 := Lib.hid (hN7.out.set_ 0 (Value.int .i64 (pj : Int)))
          have hX8 := Lib.hid (hX7.out.grown hg8.out (by intro e; injection e with e; have := hg9w.out; omega))
          have hZ8 := Lib.hid (hZ7.out.grown hg8.out (by intro e; injection e with e; have := hg9w.out; omega))
          have hb8 := Lib.hid (below_set hb7.out (show w.heap.size ≤ g9 by have := hg9w.out; omega) 0 (Value.int .i64 (pj : Int)))
          have hpl : pj < sl.length := by have := hl.out; (try simp only at this); omega
          have hpxe : Hid (sl[pj] = p) := (List.getElem?_eq_some_iff.1 hpo.out).2
          have hps := Lib.hid (hcm.out.els p (List.mem_of_getElem? hpo.out))
          have hpm := Lib.hid (hsm.out p (List.mem_of_getElem? hpo.out))
          have hpc : Hid (∀ wz, Below w.heap.size w wz → wz.cell? (ad.add (pj * 3)) = some (Value.bool p.up) ∧ wz.cell? ⟨(ad.add (pj * 3)).block, (ad.add (pj * 3)).off + 1, none⟩ = some (Value.int .i64 p.view) ∧ wz.cell? ⟨(ad.add (pj * 3)).block, (ad.add (pj * 3)).off + 2, none⟩ = some (Value.slice p.A p.n p.c)) := fun wz hz => by
            obtain ⟨ad', hA', -, q⟩ := sv_cells (hcm.out.at_.below hz (Nat.le_refl _)) hpn
            (try simp only at hA')
            injection hA' with hA'
            subst hA'
            rw [hpxe.out] at q
            exact q
          have hp0 : (0 : Int) ≤ pj := by omega
          have hp1 : (pj : Int) < n := by omega
          obtain ⟨pu, pv, pA, pn, pc, pl⟩ := p
          (try simp only at hpc hpm hpu)
          have hpnl : Hid (pl.length = pn) := hps.out.len
          obtain ⟨lv, hlv⟩ : ∃ lv, pl.map Em.val = lv := ⟨_, rfl⟩
          (try rw [hlv] at hF)
          replace hlv := Lib.hid hlv
          obtain ⟨m0, m1, m2, m3⟩ := cells4 ((w7.setCell ⟨g9, 0, none⟩ (Value.int .i64 (pj : Int)))) (w.heap.size) (Value.int .i64 primary) (Value.int .i64 view) (Value.int .i64 commit) (Value.slice (some ad) n c) (hX8.out)
          clear hg8 hX7 hZ7 hN7 hb7
          go_wp2_with fail
          clear q0 q1 q2 q3 x0 x1 x2 x3 k0 k1 k2 k3 m0 m1 m2 m3
          have hX5 := hX8
          have hZ5 := hZ8
          have hN5 := hN8
          have hb5 := hb8
          clear hX8 hZ8 hN8 hb8
          generalize w7.setCell ⟨g9, 0, none⟩ (Value.int .i64 (pj : Int)) = w5 at *
          have hcl := Lib.hid (cloneS_any (some ad) n c sl w5 (hcm.out.at_.more hb5.out) (by omega))
          refine hcl.out.mono ?_; rintro e w2 ⟨v, rfl, hown, hq⟩
          obtain ⟨g, cap, rfl⟩ := hown.some_ (by have := hl.out; (try simp only at this); omega)
          rw [hl.out] at hown ⊢
          (try simp only at hown)
          have hX2 := Lib.hid (hX5.out.below hq hX5.out.lt)
          have hZ2 := Lib.hid (hZ5.out.below hq hZ5.out.lt)
          have hN2 := Lib.hid (hN5.out.below hq hN5.out.lt)
          have hb2 := Lib.hid (hb5.out.trans (hq.mono hb5.out.size))
          have hgg : Hid (g9 < g) := by show g9 < g; have h1 := (hown.grown_base hl.out.symm).1; have h2 := hN5.out.lt; omega
          have hrow2 := Lib.hid (hown.mono hb5.out.size)
          clear hq hown hcl hX5 hZ5 hN5 hb5
          obtain ⟨k0, k1, k2, k3, z0, z1, z2, z3⟩ := cells4z (w2) (g9) (Value.int .i64 (pj : Int)) (Value.int .i64 (view + 1)) (Value.int .i64 commit) (Value.slice (some ad) n c) (hN2.out)
          have hg3 : Hid (w2.grownBy (w2.setCell ⟨g9, 3, none⟩ (Value.slice (some ⟨g, 0, none⟩) n cap)) (some g9)) := only_set (World.grownBy.refl _ _) _ _
          have hN3 := Lib.hid (hN2.out.set_ 3 (Value.slice (some ⟨g, 0, none⟩) n cap))
          have hX3 := Lib.hid (hX2.out.grown hg3.out (by intro e; injection e with e; have := hg9w.out; omega))
          have hZ3 := Lib.hid (hZ2.out.grown hg3.out (by intro e; injection e with e; have := hg9w.out; omega))
          have hrow3 := Lib.hid (hrow2.out.grownO hg3.out (.inr (by intro e; simp [Value.ownBlock] at e; have := hgg.out; omega)))
          have hb3 := Lib.hid (below_set hb2.out (show w.heap.size ≤ g9 by have := hg9w.out; omega) 3 (Value.slice (some ⟨g, 0, none⟩) n cap))
          clear hg3 hX2 hZ2 hN2 hrow2 hb2
          go_wp2_with fail
          clear k0 k1 k2 k3 z0 z1 z2 z3
          generalize w2.setCell ⟨g9, 3, none⟩ (Value.slice (some ⟨g, 0, none⟩) n cap) = w6 at *
          have hgS : Hid (g < w6.heap.size) := (hrow3.out.grown_base hl.out.symm).2
          have hcell : Hid (∀ wz, Below w6.heap.size w6 wz → wz.cell? ⟨g9, 0, none⟩ = some (Value.int .i64 (pj : Int)) ∧ wz.cell? ⟨g9, 3, none⟩ = some (Value.slice (some ⟨g, 0, none⟩) n cap) ∧ wz.cell? ⟨w.heap.size, 3, none⟩ = some (Value.slice (some ad) n c) ∧ wz.cell? (ad.add (pj * 3)) = some (Value.bool pu) ∧ wz.cell? ⟨(ad.add (pj * 3)).block, (ad.add (pj * 3)).off + 2, none⟩ = some (Value.slice pA pn pc)) := fun wz hz => by
            have q1 := hN3.out.below hz hN3.out.lt
            have q2 := hX3.out.below hz hX3.out.lt
            have q3 := hpc.out wz (hb3.out.trans (hz.mono hb3.out.size))
            exact ⟨q1.cell 0, q1.cell 3, q2.cell 3, q3.1, q3.2.2⟩
          have hcl : Hid (∀ wz, Below w6.heap.size w6 wz → Calls Try.prog 42 #[.slice pA pn pc] wz fun e w' => CopyRes wz w' pn pl e ∧ Below wz.heap.size wz w') := fun wz hz => copyLog_any pA pn pc pl wz (LogAt.more (LogAt.more hps.out hb3.out) hz) hpm.out.1 (Nat.le_trans hpm.out.2 (by omega))
          refine RUZ.region [] [] 14 (F := F22b w.heap.size g9 g pj n cap c pn pc w6.heap.size ad pA lv) (W := fun wz => Below w6.heap.size w6 wz) (R := fun _ => Rb) rfl F22b_more (by kernel_rfl) (by kernel_rfl) (by kernel_rfl) (by kernel_rfl) (by kernel_rfl) (by kernel_rfl) ?_ ?_ ?_ ?_
          · exact (Below.refl _ _).drew
          · intro t ht
            unfold F22b
            split <;> first | trivial | exact rfl | (exact absurd ht (by decide))
          · intro i o hi ho
            have hcs : i = 0 ∨ i = 1 ∨ i = 2 ∨ i = 3 ∨ i = 4 ∨ i = 5 ∨ i = 6 ∨ i = 7 ∨ i = 8 ∨ i = 9 ∨ i = 10 ∨ i = 11 ∨ i = 12 ∨ i = 13 := by omega
            rcases hcs with rfl | rfl | rfl | rfl | rfl | rfl | rfl | rfl | rfl | rfl | rfl | rfl | rfl | rfl <;> (injection ho with ho; subst ho)
            · intro a w2 hw _ hf K hK
              have f0 := hf 3 rfl
              simp only [F22b] at f0
              clear hf
              go_simp
              exact hK _ _ _ rfl rfl hw (Below.refl _ _) (fun h => absurd h (by decide))
            · intro a w2 hw _ hf K hK
              have f0 := hf 42 rfl
              simp only [F22b] at f0
              clear hf
              obtain ⟨n0, n3, b3, l0, l2⟩ := hcell.out w2 hw
              go_simp
              exact hK _ _ _ rfl rfl hw (Below.refl _ _) (fun h => absurd h (by decide))
            · intro a w2 hw _ hf K hK
              have f0 := hf 3 rfl
              simp only [F22b] at f0
              clear hf
              go_simp
              exact hK _ _ _ rfl rfl hw (Below.refl _ _) (fun h => absurd h (by decide))
            · intro a w2 hw _ hf K hK
              have f0 := hf 44 rfl
              simp only [F22b] at f0
              clear hf
              obtain ⟨n0, n3, b3, l0, l2⟩ := hcell.out w2 hw
              go_simp
              exact hK _ _ _ rfl rfl hw (Below.refl _ _) (fun h => absurd h (by decide))
            · intro a w2 hw _ hf K hK
              have f0 := hf 1 rfl
              simp only [F22b] at f0
              clear hf
              go_simp
              exact hK _ _ _ rfl rfl hw (Below.refl _ _) (fun h => absurd h (by decide))
            · intro a w2 hw _ hf K hK
              have f0 := hf 46 rfl
              simp only [F22b] at f0
              clear hf
              obtain ⟨n0, n3, b3, l0, l2⟩ := hcell.out w2 hw
              go_simp
              exact hK _ _ _ rfl rfl hw (Below.refl _ _) (fun h => absurd h (by decide))
            · intro a w2 hw _ hf K hK
              have f0 := hf 3 rfl
              simp only [F22b] at f0
              clear hf
              go_simp
              exact hK _ _ _ rfl rfl hw (Below.refl _ _) (fun h => absurd h (by decide))
            · intro a w2 hw _ hf K hK
              have f0 := hf 48 rfl
              simp only [F22b] at f0
              clear hf
              obtain ⟨n0, n3, b3, l0, l2⟩ := hcell.out w2 hw
              go_simp
              exact hK _ _ _ rfl rfl hw (Below.refl _ _) (fun h => absurd h (by decide))
            · intro a w2 hw _ hf K hK
              have f0 := hf 47 rfl
              have f1 := hf 49 rfl
              simp only [F22b] at f0 f1
              clear hf
              go_simp
              exact hK _ _ _ rfl rfl hw (Below.refl _ _) (fun h => absurd h (by decide))
            · intro a w2 hw _ hf K hK
              have f0 := hf 50 rfl
              simp only [F22b] at f0
              clear hf
              obtain ⟨n0, n3, b3, l0, l2⟩ := hcell.out w2 hw
              go_simp
              exact hK _ _ _ rfl rfl hw (Below.refl _ _) (fun h => absurd h (by decide))
            · intro a w2 hw _ hf K hK
              have f0 := hf 51 rfl
              simp only [F22b] at f0
              clear hf
              obtain ⟨n0, n3, b3, l0, l2⟩ := hcell.out w2 hw
              go_simp
              exact hK _ _ _ rfl rfl hw (Below.refl _ _) (fun h => absurd h (by decide))
            · intro a w2 hw _ hf K hK
              have f0 := hf 52 rfl
              simp only [F22b] at f0
              clear hf
              go_simp
              refine (hcl.out w2 hw).mono ?_; rintro e w5 ⟨⟨g5, l5, rfl, ho5, he5, hv5⟩, hbq⟩
              exact hK _ _ _ rfl ⟨some ⟨g5, 0, none⟩, pn + 1, l5, rfl, (LogAt.of_own ho5 (by have := congrArg List.length hv5; rw [List.length_map, List.length_map] at this; rw [this]; exact hpnl.out) (fun e he => (he5 e he).imp (fun b hb => hb.1))).imp (fun b hb => Nat.le_trans hw.size hb), hv5.trans hlv.out⟩ (hw.trans (hbq.mono hw.size)) hbq (fun h => absurd h (by decide))
            · intro a w2 hw _ hf K hK
              have f0 := hf 43 rfl
              have f1 := hf 45 rfl
              simp only [F22b] at f0 f1
              clear hf
              go_simp
              exact hK _ _ _ rfl (by show _ = _; first | rfl | rw [add_row]) hw (Below.refl _ _) (fun h => absurd h (by decide))
            · intro a w2 hw _ hf K hK
              have f0 := hf 54 rfl
              simp only [F22b] at f0
              clear hf
              go_simp
              exact hK _ _ _ rfl rfl hw (Below.refl _ _) (fun h => absurd h (by decide))
          · intro a' w9 hd hs hw hout hf
            have h53 := hf 11 53 (by decide) rfl rfl
            simp only [F22b] at h53
            have h55 := hf 13 55 (by decide) rfl rfl
            simp only [F22b] at h55
            have e0 := hout 0 rfl
            have e1 := hout 1 rfl
            have e2 := hout 2 rfl
            have e3 := hout 3 rfl
            have e4 := hout 4 rfl
            have e5 := hout 5 rfl
            have e6 := hout 6 rfl
            have e7 := hout 7 rfl
            have e8 := hout 8 rfl
            have e9 := hout 9 rfl
            have e10 := hout 10 rfl
            have e11 := hout 11 rfl
            have e12 := hout 12 rfl
            have e13 := hout 13 rfl
            have e14 := hout 14 rfl
            have e15 := hout 15 rfl
            have e16 := hout 16 rfl
            have e17 := hout 17 rfl
            have e18 := hout 18 rfl
            have e19 := hout 19 rfl
            have e20 := hout 20 rfl
            have e21 := hout 21 rfl
            have e22 := hout 22 rfl
            have e23 := hout 23 rfl
            have e24 := hout 24 rfl
            have e25 := hout 25 rfl
            have e26 := hout 26 rfl
            have e27 := hout 27 rfl
            have e28 := hout 28 rfl
            have e29 := hout 29 rfl
            have e30 := hout 30 rfl
            have e31 := hout 31 rfl
            have e32 := hout 32 rfl
            have e33 := hout 33 rfl
            have e34 := hout 34 rfl
            have e35 := hout 35 rfl
            have e36 := hout 36 rfl
            have e37 := hout 37 rfl
            have e38 := hout 38 rfl
            have e39 := hout 39 rfl
            have e40 := hout 40 rfl
            have e41 := hout 41 rfl
            have e82 := hout 82 rfl
            have e83 := hout 83 rfl
            have e84 := hout 84 rfl
            have e85 := hout 85 rfl
            have e86 := hout 86 rfl
            have e87 := hout 87 rfl
            have e88 := hout 88 rfl
            have e89 := hout 89 rfl
            have e90 := hout 90 rfl
            have e91 := hout 91 rfl
            simp only [List.getElem?_toArray, List.getElem?_cons_succ, List.getElem?_cons_zero] at e0 e1 e2 e3 e4 e5 e6 e7 e8 e9 e10 e11 e12 e13 e14 e15 e16 e17 e18 e19 e20 e21 e22 e23 e24 e25 e26 e27 e28 e29 e30 e31 e32 e33 e34 e35 e36 e37 e38 e39 e40 e41 e82 e83 e84 e85 e86 e87 e88 e89 e90 e91
            obtain ⟨tm, df⟩ := a'
            simp only at hd hs h53 h55 e0 e1 e2 e3 e4 e5 e6 e7 e8 e9 e10 e11 e12 e13 e14 e15 e16 e17 e18 e19 e20 e21 e22 e23 e24 e25 e26 e27 e28 e29 e30 e31 e32 e33 e34 e35 e36 e37 e38 e39 e40 e41 e82 e83 e84 e85 e86 e87 e88 e89 e90 e91
            have e := F22b_lit tm hs
            simp only [h55, e0, e1, e2, e3, e4, e5, e6, e7, e8, e9, e10, e11, e12, e13, e14, e15, e16, e17, e18, e19, e20, e21, e22, e23, e24, e25, e26, e27, e28, e29, e30, e31, e32, e33, e34, e35, e36, e37, e38, e39, e40, e41, e82, e83, e84, e85, e86, e87, e88, e89, e90, e91, Option.getD_some] at e
            clear hf hout hs
            rw [e, hd]
            clear e hd h55 e0 e1 e2 e3 e4 e5 e6 e7 e8 e9 e10 e11 e12 e13 e14 e15 e16 e17 e18 e19 e20 e21 e22 e23 e24 e25 e26 e27 e28 e29 e30 e31 e32 e33 e34 e35 e36 e37 e38 e39 e40 e41 e82 e83 e84 e85 e86 e87 e88 e89 e90 e91
            generalize tm[53]?.getD undef = u53x at h53 ⊢
            generalize tm[42]?.getD undef = u42x, tm[43]?.getD undef = u43x, tm[44]?.getD undef = u44x, tm[45]?.getD undef = u45x, tm[46]?.getD undef = u46x, tm[47]?.getD undef = u47x, tm[48]?.getD undef = u48x, tm[49]?.getD undef = u49x, tm[50]?.getD undef = u50x, tm[51]?.getD undef = u51x, tm[52]?.getD undef = u52x, tm[54]?.getD undef = u54x, tm[56]?.getD undef = u56x, tm[57]?.getD undef = u57x, tm[58]?.getD undef = u58x, tm[59]?.getD undef = u59x, tm[60]?.getD undef = u60x, tm[61]?.getD undef = u61x, tm[62]?.getD undef = u62x, tm[63]?.getD undef = u63x, tm[64]?.getD undef = u64x, tm[65]?.getD undef = u65x, tm[66]?.getD undef = u66x, tm[67]?.getD undef = u67x, tm[68]?.getD undef = u68x, tm[69]?.getD undef = u69x, tm[70]?.getD undef = u70x, tm[71]?.getD undef = u71x, tm[72]?.getD undef = u72x, tm[73]?.getD undef = u73x, tm[74]?.getD undef = u74x, tm[75]?.getD undef = u75x, tm[76]?.getD undef = u76x, tm[77]?.getD undef = u77x, tm[78]?.getD undef = u78x, tm[79]?.getD undef = u79x, tm[80]?.getD undef = u80x, tm[81]?.getD undef = u81x
            obtain ⟨A9, c9, l9, rfl, hl9, hv9⟩ := h53
            have hrow9 := Lib.hid (hrow3.out.kept hw)
            have hX9 := Lib.hid (hX3.out.below hw hX3.out.lt)
            have hZ9 := Lib.hid (hZ3.out.below hw hZ3.out.lt)
            have hN9 := Lib.hid (hN3.out.below hw hN3.out.lt)
            have hb9 : Hid (Below w.heap.size w w9) := hb3.out.trans (hw.mono hb3.out.size)
            replace hl9 := Lib.hid hl9
            replace hv9 := Lib.hid hv9
            clear hw hcell hcl hrow3 hX3 hZ3 hN3 hb3
            have c5 : w9.cell? ⟨g, pj * 3 + 2, none⟩ = some (Value.slice pA pn pc) := by
              rw [hrow9.out.cellAt hl.out.symm (k := pj) hpl (j := 2) (by decide), hpxe.out]; rfl
            have z5 : w9.frozen? ⟨g, pj * 3 + 2, none⟩ = false := hrow9.out.frozenAt hl.out.symm _
            have hrowS := (hrow9.out.storep hl.out.symm (k := pj) hpl (⟨pu, pv, A9, pn, c9, l9⟩ : Sm) 2 [Value.slice A9 pn c9] (by simp) (row_set hpl ⟨pu, pv, pA, pn, pc, pl⟩ _ 2 _ (by decide) hpxe.out (by
              intro j hj h1
              have : j = 0 ∨ j = 1 := by omega
              rcases this with rfl | rfl <;> rfl) rfl)).1
            replace hrowS : Hid (LOwn svC 3 47 (w9.setCell ⟨g, pj * 3 + 2, none⟩ (Value.slice A9 pn c9)) w.heap.size (.slice (some ⟨g, 0, none⟩) n cap) (sl.set pj ⟨pu, pv, A9, pn, c9, l9⟩)) := hrowS
            have hgS9 : Hid (w9.grownBy (w9.setCell ⟨g, pj * 3 + 2, none⟩ (Value.slice A9 pn c9)) (some g)) := only_set (World.grownBy.refl _ _) _ _
            have hXS := Lib.hid (hX9.out.grown hgS9.out (by intro e; injection e with e; have := hg9w.out; have := hgg.out; omega))
            have hZS := Lib.hid (hZ9.out.grown hgS9.out (by intro e; injection e with e; have := hg9w.out; have := hgg.out; omega))
            have hNS := Lib.hid (hN9.out.grown hgS9.out (by intro e; injection e with e; have := hg9w.out; have := hgg.out; omega))
            have hbS := Lib.hid (hb9.out.grown hgS9.out hb9.out.size (fun g8 e8 => by injection e8 with e8; have := hg9w.out; have := hgg.out; omega))
            have hES : Hid (∀ s ∈ sl.set pj ⟨pu, pv, A9, pn, c9, l9⟩, SmAt (w9.setCell ⟨g, pj * 3 + 2, none⟩ (Value.slice A9 pn c9)) (fun b => ((Q b ∧ b < w.heap.size) ∨ g9 < b) ∧ b ≠ g) s) := fun s hs => by
              rcases List.mem_or_eq_of_mem_set hs with hs | rfl
              · refine SmAt.imp (SmAt.st ((hcm.out.els s hs).more hb9.out) hgS9.out (fun b hb e => ?_)) (fun b hb => ⟨Or.inl hb, ?_⟩)
                · injection e with e; have := hb.2; have := hg9w.out; have := hgg.out; omega
                · have := hb.2; have := hg9w.out; have := hgg.out; omega
              · show LogAt _ (fun b => ((Q b ∧ b < w.heap.size) ∨ g9 < b) ∧ b ≠ g) _ _ _ _
                refine LogAt.imp (LogAt.st hl9.out hgS9.out (fun b hb e => ?_)) (fun b hb => ⟨Or.inr ?_, ?_⟩)
                · injection e with e; have := hgS.out; omega
                · have := hgS.out; have := hgg.out; omega
                · have := hgS.out; omega
            have hU0 : Hid ((sl.set pj (⟨pu, pv, A9, pn, c9, l9⟩ : Sm)).map Sm.val = sl.map Sm.val) := by
              show _ = _
              rw [List.map_set]
              refine set_same _ pj _ ?_
              rw [List.getElem?_map, hpo.out]
              show some (Sv.mk pu pv (pl.map Em.val)) = some (Sv.mk pu pv (l9.map Em.val))
              rw [hv9.out, hlv.out]
            have hUs : Hid (∀ u ∈ sl.map Sm.val, svSm u) := fun u hu => by
              obtain ⟨s, hs, rfl⟩ := List.mem_map.1 hu
              exact svSm_val (hcm.out.els s hs) (hsm.out s hs)
            clear hrow9 hX9 hZ9 hN9 hb9 hgS9 hl9
            obtain ⟨q0, q1, q2, q3⟩ := cells4 ((w9.setCell ⟨g, pj * 3 + 2, none⟩ (Value.slice A9 pn c9))) (g9) (Value.int .i64 (pj : Int)) (Value.int .i64 (view + 1)) (Value.int .i64 commit) (Value.slice (some ⟨g, 0, none⟩) n cap) (hNS.out)
            go_wp2_with fail
            clear c5 z5 q0 q1 q2 q3
            generalize w9.setCell ⟨g, pj * 3 + 2, none⟩ (Value.slice A9 pn c9) = wS at *
            go_loopw [59] (fun i wr => ∃ (k : Nat) (T : List Sm), k ≤ n ∧ i = .int .i64 k ∧ Hid (T.length = n) ∧ Hid (LOwn svC 3 47 wr w.heap.size (.slice (some ⟨g, 0, none⟩) n cap) T) ∧ Hid (∀ s ∈ T, SmAt wr (fun b => ((Q b ∧ b < w.heap.size) ∨ g9 < b) ∧ b ≠ g) s) ∧ Hid (∀ u ∈ T.map Sm.val, svSm u) ∧ Hid (∃ s, (T.map Sm.val)[pj]? = some s ∧ s.log = lv) ∧ Hid (T.map Sm.val = (bringS (view + 1) lv (sl.map Sm.val)).take k ++ (sl.map Sm.val).drop k) ∧ Hid (Blk wr w.heap.size 24 #[Value.int .i64 primary, Value.int .i64 view, Value.int .i64 commit, Value.slice (some ad) n c]) ∧ Hid (Blk wr (w.heap.size + 1) 24 #[Value.int .i64 0, Value.int .i64 0, Value.int .i64 0, Value.slice none 0 0]) ∧ Hid (Blk wr g9 24 #[Value.int .i64 (pj : Int), Value.int .i64 (view + 1), Value.int .i64 commit, Value.slice (some ⟨g, 0, none⟩) n cap]) ∧ Hid (Below w.heap.size w wr)) (fun i _ => n - (intOf i).toNat)
            case atStart => exact ⟨0, _, Nat.zero_le _, rfl, by show _ = _; rw [List.length_set]; exact hl.out, hrowS.out, hES.out, by rw [hU0.out]; exact hUs.out, by rw [hU0.out]; exact ⟨_, by rw [List.getElem?_map, hpo.out]; rfl, hlv.out⟩, by show _ = _; rw [hU0.out]; rfl, hXS.out, hZS.out, hNS.out, hbS.out⟩
            clear hrowS hES hXS hZS hNS hbS
            case round =>
              obtain ⟨k, T, hkn, rfl, hTn, hrow, hE, hTs, hTp, hRk, hX, hZ, hN, hb⟩ := hrel
              by_cases hlt : k < n
              · have hkT : k < T.length := by rw [hTn.out]; exact hlt
                have hk0 : (0 : Int) ≤ k := by omega
                have hk1 : (k : Int) < n := by omega
                have hkl : k < sl.length := by have := hl.out; (try simp only at this); omega
                obtain ⟨x, hx⟩ : ∃ x, T[k]? = some x := ⟨_, List.getElem?_eq_getElem hkT⟩
                have hxe : Hid (T[k] = x) := (List.getElem?_eq_some_iff.1 hx).2
                have hxo := Lib.hid hx
                clear hx
                have hUx : Hid ((T.map Sm.val)[k]? = some x.val) := by show _ = _; rw [List.getElem?_map, hxo.out]; rfl
                obtain ⟨xu, xv, xA, xn, xc, xl⟩ := x
                obtain ⟨e0, e1, e2⟩ := (show wr.cell? ⟨g, k * 3, none⟩ = some (Value.bool xu) ∧ wr.cell? ⟨g, k * 3 + 1, none⟩ = some (Value.int .i64 xv) ∧ wr.cell? ⟨g, k * 3 + 2, none⟩ = some (Value.slice xA xn xc) from by
                  refine ⟨?_, ?_, ?_⟩
                  · have := hrow.out.cellAt hTn.out.symm (k := k) hkT (j := 0) (by decide); rw [hxe.out] at this; exact this
                  · have := hrow.out.cellAt hTn.out.symm (k := k) hkT (j := 1) (by decide); rw [hxe.out] at this; exact this
                  · have := hrow.out.cellAt hTn.out.symm (k := k) hkT (j := 2) (by decide); rw [hxe.out] at this; exact this)
                have hbx : Hid (Below wr.heap.size wr (wr.alloc (.cells #[Value.bool xu, Value.int .i64 xv, Value.slice xA xn xc] 47))) := a1 wr _
                have hrowX := Lib.hid (hrow.out.kept hbx.out)
                have hXX := Lib.hid (hX.out.below hbx.out hX.out.lt)
                have hZX := Lib.hid (hZ.out.below hbx.out hZ.out.lt)
                have hNX := Lib.hid (hN.out.below hbx.out hN.out.lt)
                have hbX := Lib.hid (hb.out.trans (hbx.out.mono hb.out.size))
                have hEX : Hid (∀ s ∈ T, SmAt (wr.alloc (.cells #[Value.bool xu, Value.int .i64 xv, Value.slice xA xn xc] 47)) (fun b => ((Q b ∧ b < w.heap.size) ∨ g9 < b) ∧ b ≠ g) s) := fun s hs => (hE.out s hs).more hbx.out
                have hgX : Hid (g < (wr.alloc (.cells #[Value.bool xu, Value.int .i64 xv, Value.slice xA xn xc] 47)).heap.size) := (hrowX.out.grown_base hTn.out.symm).2
                have hy := Lib.hid (Blk.new wr 47 #[Value.bool xu, Value.int .i64 xv, Value.slice xA xn xc])
                clear hrow hX hZ hN hb hE hbx
                obtain ⟨q0, q1, q2, q3⟩ := cells4 ((wr.alloc (.cells #[Value.bool xu, Value.int .i64 xv, Value.slice xA xn xc] 47))) (g9) (Value.int .i64 (pj : Int)) (Value.int .i64 (view + 1)) (Value.int .i64 commit) (Value.slice (some ⟨g, 0, none⟩) n cap) (hNX.out)
                obtain ⟨y0, y1, y2⟩ := cells3 ((wr.alloc (.cells #[Value.bool xu, Value.int .i64 xv, Value.slice xA xn xc] 47))) (wr.heap.size) (Value.bool xu) (Value.int .i64 xv) (Value.slice xA xn xc) (hy.out)
                cases xu with
                | true =>
                  obtain ⟨p', hp'⟩ : ∃ p', T[pj]? = some p' := ⟨_, List.getElem?_eq_getElem (by rw [hTn.out]; exact hpn)⟩
                  have hplv' : Hid (p'.log.map Em.val = lv) := by
                    obtain ⟨s, h1, h2⟩ := hTp.out
                    rw [List.getElem?_map, hp'] at h1
                    injection h1 with h1
                    rw [← h2, ← h1]
                    rfl
                  have hpo' := Lib.hid hp'
                  have hpsm := Lib.hid (svSm_of (hEX.out _ (List.mem_of_getElem? hp')) (hTs.out _ (List.mem_map.2 ⟨_, List.mem_of_getElem? hp', rfl⟩)))
                  have hlvsm : Hid (∀ a b, svSm ⟨a, b, lv⟩) := fun a b => by
                    obtain ⟨s, h1, h2⟩ := hTp.out
                    have := hTs.out _ (List.mem_of_getElem? h1)
                    rw [← h2]
                    exact ⟨this.1, this.2⟩
                  clear hp'
                  have hup := Lib.hid (update_any pj (view + 1) commit g n cap w.heap.size k T ⟨true, xv, xA, xn, xc, xl⟩ p' (wr.alloc (.cells #[Value.bool true, Value.int .i64 xv, Value.slice xA xn xc] 47)) hrowX.out hTn.out (by omega) hxo.out hpo'.out (hEX.out _ (List.mem_of_getElem? hxo.out)) (hEX.out _ (List.mem_of_getElem? hpo'.out)) (fun b hb => hb.2) hpsm.out)
                  go_wp2_with fail
                  refine hup.out.mono ?_; rintro e w6 ⟨rfl, ⟨s', hrow5, hs5, hv5⟩, hg5⟩
                  have hX6 := Lib.hid (hXX.out.grown hg5 (by intro e; injection e with e; have := hg9w.out; have := hgg.out; omega))
                  have hZ6 := Lib.hid (hZX.out.grown hg5 (by intro e; injection e with e; have := hg9w.out; have := hgg.out; omega))
                  have hN6 := Lib.hid (hNX.out.grown hg5 (by intro e; injection e with e; have := hg9w.out; have := hgg.out; omega))
                  have hb6 := Lib.hid (hbX.out.grown hg5 hbX.out.size (fun g8 e8 => by injection e8 with e8; have := hg9w.out; have := hgg.out; omega))
                  have hE6 : Hid (∀ s ∈ T.set k s', SmAt w6 (fun b => ((Q b ∧ b < w.heap.size) ∨ g9 < b) ∧ b ≠ g) s) := fun s hs => by
                    rcases List.mem_or_eq_of_mem_set hs with hs | rfl
                    · exact (hEX.out s hs).st hg5 (fun b hb e => by injection e with e; exact hb.2 e)
                    · refine hs5.imp (fun b hb => ?_)
                      rcases hb with hb | hb
                      · exact hb
                      · have := hgX.out; have := hgg.out; exact ⟨Or.inr (by omega), by omega⟩
                  have hv5' : s'.val = ⟨true, (view + 1), lv⟩ := by rw [hv5, show p'.log.map Em.val = lv from hplv'.out]
                  have hU5 : (T.set k s').map Sm.val = (T.map Sm.val).set k ⟨true, (view + 1), lv⟩ := by rw [List.map_set, hv5']
                  have hTs5 : Hid (∀ u ∈ (T.set k s').map Sm.val, svSm u) := fun u hu => by
                    rw [hU5] at hu
                    rcases List.mem_or_eq_of_mem_set hu with hu | rfl
                    · exact hTs.out u hu
                    · exact hlvsm.out _ _
                  have hR5 : Hid ((T.set k s').map Sm.val = (bringS (view + 1) lv (sl.map Sm.val)).take (k + 1) ++ (sl.map Sm.val).drop (k + 1)) := by
                    show _ = _
                    rw [hU5]
                    exact bring_up hRk.out hUx.out rfl
                  have hT5 : Hid (∃ s, ((T.set k s').map Sm.val)[pj]? = some s ∧ s.log = lv) := by
                    rw [hU5]
                    by_cases hkp : k = pj
                    · subst hkp
                      exact ⟨_, List.getElem?_set_self (by rw [List.length_map]; exact hkT), rfl⟩
                    · rw [List.getElem?_set_ne hkp]
                      exact hTp.out
                  have hrow5 := Lib.hid hrow5
                  have hl5 : Hid ((T.set k s').length = n) := by show _ = _; rw [List.length_set]; exact hTn.out
                  clear hup hs5 hv5 hg5 hv5' hU5
                  go_wp2_with fail
                  go_roundw
                  case rel => exact ⟨k + 1, T.set k s', by omega, by go_num, hl5.out, hrow5.out, hE6.out, hTs5.out, hT5.out, hR5.out, hX6.out, hZ6.out, hN6.out, hb6.out⟩
                  case measure => simp [intOf]; omega
                | false =>
                  have hkp : k ≠ pj := fun e => by
                    subst e
                    have h1 := hUx.out
                    rw [hRk.out, List.getElem?_append_right (by rw [List.length_take]; omega)] at h1
                    have h2 : ((sl.map Sm.val).drop k)[k - ((bringS (view + 1) lv (sl.map Sm.val)).take k).length]? = (sl.map Sm.val)[k]? := by
                      have h3 : ((bringS (view + 1) lv (sl.map Sm.val)).take k).length = k := by rw [List.length_take]; unfold bringS; rw [List.length_map, List.length_map]; omega
                      rw [h3, Nat.sub_self, List.getElem?_drop]
                      rfl
                    rw [h2, List.getElem?_map, hpo.out] at h1
                    injection h1 with h1
                    have := congrArg Sv.up h1
                    exact absurd (show true = false from hpu.out.symm.trans this) (by decide)
                  have q1d : ((k : Int) != (pj : Int)) = true := by simp; omega
                  have hcell : Hid (∀ wz, Below (wr.alloc (.cells #[Value.bool false, Value.int .i64 xv, Value.slice xA xn xc] 47)).heap.size (wr.alloc (.cells #[Value.bool false, Value.int .i64 xv, Value.slice xA xn xc] 47)) wz → wz.cell? ⟨g9, 3, none⟩ = some (Value.slice (some ⟨g, 0, none⟩) n cap) ∧ wz.cell? ⟨wr.heap.size, 2, none⟩ = some (Value.slice xA xn xc)) := fun wz hz => ⟨(hNX.out.below hz hNX.out.lt).cell 3, (hy.out.below hz hy.out.lt).cell 2⟩
                  have hxs2 := Lib.hid (hEX.out _ (List.mem_of_getElem? hxo.out))
                  have hxm2 := Lib.hid (svSm_of hxs2.out (hTs.out _ (List.mem_map.2 ⟨_, List.mem_of_getElem? hxo.out, rfl⟩)))
                  have hcl : Hid (∀ wz, Below (wr.alloc (.cells #[Value.bool false, Value.int .i64 xv, Value.slice xA xn xc] 47)).heap.size (wr.alloc (.cells #[Value.bool false, Value.int .i64 xv, Value.slice xA xn xc] 47)) wz → Calls Try.prog 42 #[.slice xA xn xc] wz fun e w' => CopyRes wz w' xn xl e ∧ Below wz.heap.size wz w') := fun wz hz => copyLog_any xA xn xc xl wz (SmAt.more hxs2.out hz) hxm2.out.1 hxm2.out.2
                  obtain ⟨lv', hlv'⟩ : ∃ lv', xl.map Em.val = lv' := ⟨_, rfl⟩
                  have hxl : Hid (xl.length = xn) := hxs2.out.len
                  replace hlv' := Lib.hid hlv'
                  go_wp2_with fail
                  refine RUZ.region [] [] 8 (F := F22c g9 wr.heap.size g n cap k xn xc (wr.alloc (.cells #[Value.bool false, Value.int .i64 xv, Value.slice xA xn xc] 47)).heap.size xA lv') (W := fun wz => Below (wr.alloc (.cells #[Value.bool false, Value.int .i64 xv, Value.slice xA xn xc] 47)).heap.size (wr.alloc (.cells #[Value.bool false, Value.int .i64 xv, Value.slice xA xn xc] 47)) wz) (R := fun _ => Rb) rfl F22c_more (by kernel_rfl) (by kernel_rfl) (by kernel_rfl) (by kernel_rfl) (by kernel_rfl) (by kernel_rfl) ?_ ?_ ?_ ?_
                  · exact (Below.refl _ _).drew
                  · intro t ht
                    unfold F22c
                    split <;> first | trivial | exact rfl | (exact absurd ht (by decide))
                  · intro i o hi ho
                    have hcs : i = 0 ∨ i = 1 ∨ i = 2 ∨ i = 3 ∨ i = 4 ∨ i = 5 ∨ i = 6 ∨ i = 7 := by omega
                    rcases hcs with rfl | rfl | rfl | rfl | rfl | rfl | rfl | rfl <;> (injection ho with ho; subst ho)
                    · intro a w2 hw _ hf K hK
                      have f0 := hf 3 rfl
                      simp only [F22c] at f0
                      clear hf
                      go_simp
                      exact hK _ _ _ rfl rfl hw (Below.refl _ _) (fun h => absurd h (by decide))
                    · intro a w2 hw _ hf K hK
                      have f0 := hf 73 rfl
                      simp only [F22c] at f0
                      clear hf
                      have e := (hcell.out w2 hw).1
                      go_simp
                      exact hK _ _ _ rfl rfl hw (Below.refl _ _) (fun h => absurd h (by decide))
                    · intro a w2 hw _ hf K hK
                      have f0 := hf 4 rfl
                      simp only [F22c] at f0
                      clear hf
                      go_simp
                      exact hK _ _ _ rfl rfl hw (Below.refl _ _) (fun h => absurd h (by decide))
                    · intro a w2 hw _ hf K hK
                      have f0 := hf 5 rfl
                      simp only [F22c] at f0
                      clear hf
                      go_simp
                      exact hK _ _ _ rfl rfl hw (Below.refl _ _) (fun h => absurd h (by decide))
                    · intro a w2 hw _ hf K hK
                      have f0 := hf 76 rfl
                      simp only [F22c] at f0
                      clear hf
                      have e := (hcell.out w2 hw).2
                      go_simp
                      exact hK _ _ _ rfl rfl hw (Below.refl _ _) (fun h => absurd h (by decide))
                    · intro a w2 hw _ hf K hK
                      have f0 := hf 77 rfl
                      simp only [F22c] at f0
                      clear hf
                      go_simp
                      refine (hcl.out w2 hw).mono ?_; rintro e w5 ⟨⟨g5, l5, rfl, ho5, he5, hv5⟩, hbq⟩
                      exact hK _ _ _ rfl ⟨some ⟨g5, 0, none⟩, xn + 1, l5, rfl, (LogAt.of_own ho5 (by have := congrArg List.length hv5; rw [List.length_map, List.length_map] at this; rw [this]; exact hxl.out) (fun e he => (he5 e he).imp (fun b hb => hb.1))).imp (fun b hb => Nat.le_trans hw.size hb), hv5.trans hlv'.out⟩ (hw.trans (hbq.mono hw.size)) hbq (fun h => absurd h (by decide))
                    · intro a w2 hw _ hf K hK
                      have f0 := hf 74 rfl
                      have f1 := hf 75 rfl
                      simp only [F22c] at f0 f1
                      clear hf
                      go_simp
                      exact hK _ _ _ rfl (by show _ = _; first | rfl | rw [add_row]) hw (Below.refl _ _) (fun h => absurd h (by decide))
                    · intro a w2 hw _ hf K hK
                      have f0 := hf 79 rfl
                      simp only [F22c] at f0
                      clear hf
                      go_simp
                      exact hK _ _ _ rfl rfl hw (Below.refl _ _) (fun h => absurd h (by decide))
                  · intro a' w9 hd hs hw hout hf
                    have h78 := hf 5 78 (by decide) rfl rfl
                    simp only [F22c] at h78
                    have h80 := hf 7 80 (by decide) rfl rfl
                    simp only [F22c] at h80
                    have e0 := hout 0 rfl
                    have e1 := hout 1 rfl
                    have e2 := hout 2 rfl
                    have e3 := hout 3 rfl
                    have e4 := hout 4 rfl
                    have e5 := hout 5 rfl
                    have e6 := hout 6 rfl
                    have e7 := hout 7 rfl
                    have e8 := hout 8 rfl
                    have e9 := hout 9 rfl
                    have e10 := hout 10 rfl
                    have e11 := hout 11 rfl
                    have e12 := hout 12 rfl
                    have e13 := hout 13 rfl
                    have e14 := hout 14 rfl
                    have e15 := hout 15 rfl
                    have e16 := hout 16 rfl
                    have e17 := hout 17 rfl
                    have e18 := hout 18 rfl
                    have e19 := hout 19 rfl
                    have e20 := hout 20 rfl
                    have e21 := hout 21 rfl
                    have e22 := hout 22 rfl
                    have e23 := hout 23 rfl
                    have e24 := hout 24 rfl
                    have e25 := hout 25 rfl
                    have e26 := hout 26 rfl
                    have e27 := hout 27 rfl
                    have e28 := hout 28 rfl
                    have e29 := hout 29 rfl
                    have e30 := hout 30 rfl
                    have e31 := hout 31 rfl
                    have e32 := hout 32 rfl
                    have e33 := hout 33 rfl
                    have e34 := hout 34 rfl
                    have e35 := hout 35 rfl
                    have e36 := hout 36 rfl
                    have e37 := hout 37 rfl
                    have e38 := hout 38 rfl
                    have e39 := hout 39 rfl
                    have e40 := hout 40 rfl
                    have e41 := hout 41 rfl
                    have e42 := hout 42 rfl
                    have e43 := hout 43 rfl
                    have e44 := hout 44 rfl
                    have e45 := hout 45 rfl
                    have e46 := hout 46 rfl
                    have e47 := hout 47 rfl
                    have e48 := hout 48 rfl
                    have e49 := hout 49 rfl
                    have e50 := hout 50 rfl
                    have e51 := hout 51 rfl
                    have e52 := hout 52 rfl
                    have e53 := hout 53 rfl
                    have e54 := hout 54 rfl
                    have e55 := hout 55 rfl
                    have e56 := hout 56 rfl
                    have e57 := hout 57 rfl
                    have e58 := hout 58 rfl
                    have e59 := hout 59 rfl
                    have e82 := hout 82 rfl
                    have e83 := hout 83 rfl
                    have e84 := hout 84 rfl
                    have e85 := hout 85 rfl
                    have e86 := hout 86 rfl
                    have e87 := hout 87 rfl
                    have e88 := hout 88 rfl
                    have e89 := hout 89 rfl
                    have e90 := hout 90 rfl
                    have e91 := hout 91 rfl
                    simp only [List.getElem?_toArray, List.getElem?_cons_succ, List.getElem?_cons_zero] at e0 e1 e2 e3 e4 e5 e6 e7 e8 e9 e10 e11 e12 e13 e14 e15 e16 e17 e18 e19 e20 e21 e22 e23 e24 e25 e26 e27 e28 e29 e30 e31 e32 e33 e34 e35 e36 e37 e38 e39 e40 e41 e42 e43 e44 e45 e46 e47 e48 e49 e50 e51 e52 e53 e54 e55 e56 e57 e58 e59 e82 e83 e84 e85 e86 e87 e88 e89 e90 e91
                    obtain ⟨tm, df⟩ := a'
                    simp only at hd hs h78 h80 e0 e1 e2 e3 e4 e5 e6 e7 e8 e9 e10 e11 e12 e13 e14 e15 e16 e17 e18 e19 e20 e21 e22 e23 e24 e25 e26 e27 e28 e29 e30 e31 e32 e33 e34 e35 e36 e37 e38 e39 e40 e41 e42 e43 e44 e45 e46 e47 e48 e49 e50 e51 e52 e53 e54 e55 e56 e57 e58 e59 e82 e83 e84 e85 e86 e87 e88 e89 e90 e91
                    have e := F22c_lit tm hs
                    simp only [h80, e0, e1, e2, e3, e4, e5, e6, e7, e8, e9, e10, e11, e12, e13, e14, e15, e16, e17, e18, e19, e20, e21, e22, e23, e24, e25, e26, e27, e28, e29, e30, e31, e32, e33, e34, e35, e36, e37, e38, e39, e40, e41, e42, e43, e44, e45, e46, e47, e48, e49, e50, e51, e52, e53, e54, e55, e56, e57, e58, e59, e82, e83, e84, e85, e86, e87, e88, e89, e90, e91, Option.getD_some] at e
                    clear hf hout hs
                    rw [e, hd]
                    clear e hd h80 e0 e1 e2 e3 e4 e5 e6 e7 e8 e9 e10 e11 e12 e13 e14 e15 e16 e17 e18 e19 e20 e21 e22 e23 e24 e25 e26 e27 e28 e29 e30 e31 e32 e33 e34 e35 e36 e37 e38 e39 e40 e41 e42 e43 e44 e45 e46 e47 e48 e49 e50 e51 e52 e53 e54 e55 e56 e57 e58 e59 e82 e83 e84 e85 e86 e87 e88 e89 e90 e91
                    generalize tm[78]?.getD undef = u78x at h78 ⊢
                    generalize tm[60]?.getD undef = u60x, tm[61]?.getD undef = u61x, tm[62]?.getD undef = u62x, tm[63]?.getD undef = u63x, tm[64]?.getD undef = u64x, tm[65]?.getD undef = u65x, tm[66]?.getD undef = u66x, tm[67]?.getD undef = u67x, tm[68]?.getD undef = u68x, tm[69]?.getD undef = u69x, tm[70]?.getD undef = u70x, tm[71]?.getD undef = u71x, tm[72]?.getD undef = u72x, tm[73]?.getD undef = u73x, tm[74]?.getD undef = u74x, tm[75]?.getD undef = u75x, tm[76]?.getD undef = u76x, tm[77]?.getD undef = u77x, tm[79]?.getD undef = u79x, tm[81]?.getD undef = u81x
                    obtain ⟨A9, c9, l9, rfl, hl9, hv9'⟩ := h78
                    have hrow9 := Lib.hid (hrowX.out.kept hw)
                    have hX9 := Lib.hid (hXX.out.below hw hXX.out.lt)
                    have hZ9 := Lib.hid (hZX.out.below hw hZX.out.lt)
                    have hN9 := Lib.hid (hNX.out.below hw hNX.out.lt)
                    have hb9 : Hid (Below w.heap.size w w9) := hbX.out.trans (hw.mono hbX.out.size)
                    have hE9 : Hid (∀ s ∈ T, SmAt w9 (fun b => ((Q b ∧ b < w.heap.size) ∨ g9 < b) ∧ b ≠ g) s) := fun s hs => (hEX.out s hs).more hw
                    replace hl9 := Lib.hid hl9
                    replace hv9' := Lib.hid hv9'
                    clear hw hcell hcl
                    have c5 : w9.cell? ⟨g, k * 3 + 2, none⟩ = some (Value.slice xA xn xc) := by
                      rw [hrow9.out.cellAt hTn.out.symm (k := k) hkT (j := 2) (by decide), hxe.out]; rfl
                    have z5 : w9.frozen? ⟨g, k * 3 + 2, none⟩ = false := hrow9.out.frozenAt hTn.out.symm _
                    have hrow3 := (hrow9.out.storep hTn.out.symm (k := k) hkT (⟨false, xv, A9, xn, c9, l9⟩ : Sm) 2 [Value.slice A9 xn c9] (by simp) (row_set hkT ⟨false, xv, xA, xn, xc, xl⟩ _ 2 _ (by decide) hxe.out (by
                      intro j hj h1
                      have : j = 0 ∨ j = 1 := by omega
                      rcases this with rfl | rfl <;> rfl) rfl)).1
                    replace hrow3 : Hid (LOwn svC 3 47 (w9.setCell ⟨g, k * 3 + 2, none⟩ (Value.slice A9 xn c9)) w.heap.size (.slice (some ⟨g, 0, none⟩) n cap) (T.set k (⟨false, xv, A9, xn, c9, l9⟩ : Sm))) := hrow3
                    have hg3 : Hid (w9.grownBy (w9.setCell ⟨g, k * 3 + 2, none⟩ (Value.slice A9 xn c9)) (some g)) := only_set (World.grownBy.refl _ _) _ _
                    have hE3 : Hid (∀ s ∈ T.set k (⟨false, xv, A9, xn, c9, l9⟩ : Sm), SmAt (w9.setCell ⟨g, k * 3 + 2, none⟩ (Value.slice A9 xn c9)) (fun b => ((Q b ∧ b < w.heap.size) ∨ g9 < b) ∧ b ≠ g) s) := fun s hs => by
                      rcases List.mem_or_eq_of_mem_set hs with hs | rfl
                      · exact (hE9.out s hs).st hg3.out (fun b hb e => by injection e with e; exact hb.2 e)
                      · show LogAt _ (fun b => ((Q b ∧ b < w.heap.size) ∨ g9 < b) ∧ b ≠ g) _ _ _ _
                        refine LogAt.imp (LogAt.st hl9.out hg3.out (fun b hb e => ?_)) (fun b hb => ?_)
                        · injection e with e; have := hgX.out; omega
                        · have := hgX.out; have := hgg.out; exact ⟨Or.inr (by omega), by omega⟩
                    have hU3 : (T.set k (⟨false, xv, A9, xn, c9, l9⟩ : Sm)).map Sm.val = T.map Sm.val := by
                      rw [List.map_set]
                      refine set_same _ k _ ?_
                      rw [hUx.out]
                      show some (Sv.mk false xv (xl.map Em.val)) = some (Sv.mk false xv (l9.map Em.val))
                      rw [hv9'.out, hlv'.out]
                    have hR3 : Hid ((T.set k (⟨false, xv, A9, xn, c9, l9⟩ : Sm)).map Sm.val = (bringS (view + 1) lv (sl.map Sm.val)).take (k + 1) ++ (sl.map Sm.val).drop (k + 1)) := by
                      show _ = _
                      rw [hU3]
                      exact bring_skip hRk.out hUx.out rfl
                    have hTs3 : Hid (∀ u ∈ (T.set k (⟨false, xv, A9, xn, c9, l9⟩ : Sm)).map Sm.val, svSm u) := by rw [hU3]; exact hTs.out
                    have hT3 : Hid (∃ s, ((T.set k (⟨false, xv, A9, xn, c9, l9⟩ : Sm)).map Sm.val)[pj]? = some s ∧ s.log = lv) := by rw [hU3]; exact hTp.out
                    have hl3 : Hid ((T.set k (⟨false, xv, A9, xn, c9, l9⟩ : Sm)).length = n) := by show _ = _; rw [List.length_set]; exact hTn.out
                    clear hU3
                    go_wp2_with fail
                    go_roundw
                    case rel => exact ⟨k + 1, T.set k (⟨false, xv, A9, xn, c9, l9⟩ : Sm), by omega, by go_num, hl3.out, hrow3.out, hE3.out, hTs3.out, hT3.out, hR3.out, hX9.out.grown hg3.out (by intro e; injection e with e; have := hg9w.out; have := hgg.out; omega), hZ9.out.grown hg3.out (by intro e; injection e with e; have := hg9w.out; have := hgg.out; omega), hN9.out.grown hg3.out (by intro e; injection e with e; have := hg9w.out; have := hgg.out; omega), hb9.out.grown hg3.out hb9.out.size (fun g8 e8 => by injection e8 with e8; have := hg9w.out; have := hgg.out; omega)⟩
                    case measure => simp [intOf]; omega
              · obtain rfl : n = k := by omega
                have hRf : Hid (T.map Sm.val = bringS (view + 1) lv (sl.map Sm.val)) := by
                  show _ = _
                  have e1 : (bringS (view + 1) lv (sl.map Sm.val)).length = n := by unfold bringS; rw [List.length_map, List.length_map]; exact hl.out
                  rw [hRk.out, List.take_of_length_le (by rw [e1]; exact Nat.le_refl _), List.drop_eq_nil_of_le (by rw [List.length_map, hl.out]; exact Nat.le_refl _), List.append_nil]
                obtain ⟨p', hp'⟩ : ∃ p', T[pj]? = some p' := ⟨_, List.getElem?_eq_getElem (by rw [hTn.out]; exact hpn)⟩
                have hpT : pj < T.length := by rw [hTn.out]; exact hpn
                have hpe : Hid (T[pj] = p') := (List.getElem?_eq_some_iff.1 hp').2
                have hqn : Hid (p'.n = lv.length) := by
                  show _ = _
                  obtain ⟨s, h1, h2⟩ := hTp.out
                  rw [List.getElem?_map, hp'] at h1
                  injection h1 with h1
                  have h3 := (hE.out _ (List.mem_of_getElem? hp')).len
                  rw [← h2, ← h1]
                  show _ = (p'.log.map Em.val).length
                  rw [List.length_map, h3]
                clear hp' hRk
                obtain ⟨qu, qv, qA, qn, qc, ql⟩ := p'
                (try simp only at hqn)
                have e2 : wr.cell? ⟨g, pj * 3 + 2, none⟩ = some (Value.slice qA qn qc) := by
                  have := hrow.out.cellAt hTn.out.symm (k := pj) hpT (j := 2) (by decide); rw [hpe.out] at this; exact this
                have hgA : Hid (wr.grownBy (wr.setCell ⟨g9, 2, none⟩ (Value.int .i64 (qn : Int))) (some g9)) := only_set (World.grownBy.refl _ _) _ _
                have hNA := Lib.hid (hN.out.set_ 2 (Value.int .i64 (qn : Int)))
                have hZA := Lib.hid (hZ.out.grown hgA.out (by intro e; injection e with e; have := hg9w.out; omega))
                have hbA := Lib.hid (below_set hb.out (show w.heap.size ≤ g9 by have := hg9w.out; omega) 2 (Value.int .i64 (qn : Int)))
                have hrowA := Lib.hid (hrow.out.grownO hgA.out (.inr (by intro e; simp [Value.ownBlock] at e; have := hgg.out; omega)))
                have hEA : Hid (∀ s ∈ T, SmAt (wr.setCell ⟨g9, 2, none⟩ (Value.int .i64 (qn : Int))) (fun b => (Q b ∧ b < w.heap.size) ∨ g9 < b) s) := fun s hs => ((hE.out s hs).st hgA.out (fun b hb e => by injection e with e; have := hb.1; have := hg9w.out; omega)).imp (fun b hb => hb.1)
                obtain ⟨q0, q1, q2, q3, x0, x1, x2, x3⟩ := cells4z (wr) (g9) (Value.int .i64 (pj : Int)) (Value.int .i64 (view + 1)) (Value.int .i64 commit) (Value.slice (some ⟨g, 0, none⟩) n cap) (hN.out)
                obtain ⟨m0, m1, m2, m3⟩ := cells4 ((wr.setCell ⟨g9, 2, none⟩ (Value.int .i64 (qn : Int)))) (g9) (Value.int .i64 (pj : Int)) (Value.int .i64 (view + 1)) (Value.int .i64 (qn : Int)) (Value.slice (some ⟨g, 0, none⟩) n cap) (hNA.out)
                obtain ⟨u0, u1, u2, u3, y0, y1, y2, y3⟩ := cells4z ((wr.setCell ⟨g9, 2, none⟩ (Value.int .i64 (qn : Int)))) ((w.heap.size + 1)) (Value.int .i64 0) (Value.int .i64 0) (Value.int .i64 0) (Value.slice none 0 0) (hZA.out)
                go_wp2_with fail
                (try simp only [Exit.inBlock, Exit.then])
                have hBF := cl_set4 hZA.out (Value.int .i64 (pj : Int)) (Value.int .i64 (view + 1)) (Value.int .i64 (qn : Int)) (Value.slice (some ⟨g, 0, none⟩) n cap)
                have hbF := below_set4 hbA.out (Nat.le_succ _) (Value.int .i64 (pj : Int)) (Value.int .i64 (view + 1)) (Value.int .i64 (qn : Int)) (Value.slice (some ⟨g, 0, none⟩) n cap)
                have hgF := grown_set4 ((wr.setCell ⟨g9, 2, none⟩ (Value.int .i64 (qn : Int)))) (w.heap.size + 1) (Value.int .i64 (pj : Int)) (Value.int .i64 (view + 1)) (Value.int .i64 (qn : Int)) (Value.slice (some ⟨g, 0, none⟩) n cap)
                refine bodyPost_ret (v := .agg #[Value.int .i64 (pj : Int), Value.int .i64 (view + 1), Value.int .i64 (qn : Int), Value.slice (some ⟨g, 0, none⟩) n cap]) ?_ rfl ?_
                · exact results_cell_row (h := rfl) _ _ (w.heap.size + 1) 24 _ (0, 0) _ rfl hBF Try.underlying24 rfl (by kernel_rfl)
                clear hBF
                generalize (((((wr.setCell ⟨g9, 2, none⟩ (Value.int .i64 (qn : Int))).setCell ⟨(w.heap.size + 1), 0, none⟩ (Value.int .i64 (pj : Int))).setCell ⟨(w.heap.size + 1), 1, none⟩ (Value.int .i64 (view + 1))).setCell ⟨(w.heap.size + 1), 2, none⟩ (Value.int .i64 (qn : Int))).setCell ⟨(w.heap.size + 1), 3, none⟩ (Value.slice (some ⟨g, 0, none⟩) n cap)) = wF at *
                have hC := CmAt.of_own (p := (pj : Int)) (v := (view + 1)) (m := (qn : Int)) (Q := (fun b => (Q b ∧ b < w.heap.size) ∨ g9 < b)) (hrowA.out.grownO hgF (.inr (by intro e; simp [Value.ownBlock] at e; have := hgg.out; have := hg9w.out; omega))) hTn.out (fun s hs => (hEA.out s hs).st hgF (fun b hb e => by injection e with e; have := hg9w.out; omega)) (Or.inr hgg.out)
                refine ⟨⟨_, rfl, hC.imp (fun b hb => hb.elim (fun h => Or.inl h.1) (fun h => Or.inr (by have := hg9w.out; omega))), ?_⟩, hbF⟩
                rw [hF.out]
                show Cv.mk _ _ _ (T.map Sm.val) = _
                rw [hRf.out, hqn.out]
      · obtain ⟨pj, rfl⟩ : ∃ pj : Nat, primary = (pj : Int) := ⟨primary.toNat, by omega⟩
        have hpn : pj < n := by have := hp1n.out; (try simp only at this); omega
        rw [show hasP ⟨(pj : Int), view, commit, (some ad), n, c, sl⟩ = true from hasP_pos hpn]
        obtain ⟨p, hpo0, hpu0, hF0⟩ := tick_prim ⟨(pj : Int), view, commit, some ad, n, c, sl⟩ pj hl.out hmjt.out rfl hpn hpup.out
        have hF : Hid (r = ⟨(pj : Int), view, ((p.log.map Em.val).length : Int), bringS view (p.log.map Em.val) (sl.map Sm.val)⟩) := by show _ = _; rw [hr.out]; exact hF0
        have hpo : Hid (sl[pj]? = some p) := hpo0
        have hpu := Lib.hid hpu0
        clear hF0 hpo0 hpu0
        have hpl : pj < sl.length := by have := hl.out; (try simp only at this); omega
        have hpxe : Hid (sl[pj] = p) := (List.getElem?_eq_some_iff.1 hpo.out).2
        have hps := Lib.hid (hcm.out.els p (List.mem_of_getElem? hpo.out))
        have hpm := Lib.hid (hsm.out p (List.mem_of_getElem? hpo.out))
        have hpc : Hid (∀ wz, Below w.heap.size w wz → wz.cell? (ad.add (pj * 3)) = some (Value.bool p.up) ∧ wz.cell? ⟨(ad.add (pj * 3)).block, (ad.add (pj * 3)).off + 1, none⟩ = some (Value.int .i64 p.view) ∧ wz.cell? ⟨(ad.add (pj * 3)).block, (ad.add (pj * 3)).off + 2, none⟩ = some (Value.slice p.A p.n p.c)) := fun wz hz => by
          obtain ⟨ad', hA', -, q⟩ := sv_cells (hcm.out.at_.below hz (Nat.le_refl _)) hpn
          (try simp only at hA')
          injection hA' with hA'
          subst hA'
          rw [hpxe.out] at q
          exact q
        have hp0 : (0 : Int) ≤ pj := by omega
        have hp1 : (pj : Int) < n := by omega
        obtain ⟨pu, pv, pA, pn, pc, pl⟩ := p
        (try simp only at hpc hpm hpu)
        have hpnl : Hid (pl.length = pn) := hps.out.len
        obtain ⟨lv, hlv⟩ : ∃ lv, pl.map Em.val = lv := ⟨_, rfl⟩
        (try rw [hlv] at hF)
        replace hlv := Lib.hid hlv
        have hcl := Lib.hid (cloneS_any (some ad) n c sl w5 (hcm.out.at_.more hb5.out) (by omega))
        obtain ⟨k0, k1, k2, k3⟩ := cells4 (w5) (w.heap.size) (Value.int .i64 (pj : Int)) (Value.int .i64 view) (Value.int .i64 commit) (Value.slice (some ad) n c) (hX5.out)
        obtain ⟨q0, q1, q2, q3, x0, x1, x2, x3⟩ := cells4z (w5) (g9) (Value.int .i64 (pj : Int)) (Value.int .i64 view) (Value.int .i64 commit) (Value.slice (some ad) n c) (hN5.out)
        go_wp2_with fail
        refine hcl.out.mono ?_; rintro e w2 ⟨v, rfl, hown, hq⟩
        obtain ⟨g, cap, rfl⟩ := hown.some_ (by have := hl.out; (try simp only at this); omega)
        rw [hl.out] at hown ⊢
        (try simp only at hown)
        have hX2 := Lib.hid (hX5.out.below hq hX5.out.lt)
        have hZ2 := Lib.hid (hZ5.out.below hq hZ5.out.lt)
        have hN2 := Lib.hid (hN5.out.below hq hN5.out.lt)
        have hb2 := Lib.hid (hb5.out.trans (hq.mono hb5.out.size))
        have hgg : Hid (g9 < g) := by show g9 < g; have h1 := (hown.grown_base hl.out.symm).1; have h2 := hN5.out.lt; omega
        have hrow2 := Lib.hid (hown.mono hb5.out.size)
        clear hq hown hcl hX5 hZ5 hN5 hb5 k0 k1 k2 k3 q0 q1 q2 q3 x0 x1 x2 x3
        obtain ⟨k0, k1, k2, k3, z0, z1, z2, z3⟩ := cells4z (w2) (g9) (Value.int .i64 (pj : Int)) (Value.int .i64 view) (Value.int .i64 commit) (Value.slice (some ad) n c) (hN2.out)
        have hg3 : Hid (w2.grownBy (w2.setCell ⟨g9, 3, none⟩ (Value.slice (some ⟨g, 0, none⟩) n cap)) (some g9)) := only_set (World.grownBy.refl _ _) _ _
        have hN3 := Lib.hid (hN2.out.set_ 3 (Value.slice (some ⟨g, 0, none⟩) n cap))
        have hX3 := Lib.hid (hX2.out.grown hg3.out (by intro e; injection e with e; have := hg9w.out; omega))
        have hZ3 := Lib.hid (hZ2.out.grown hg3.out (by intro e; injection e with e; have := hg9w.out; omega))
        have hrow3 := Lib.hid (hrow2.out.grownO hg3.out (.inr (by intro e; simp [Value.ownBlock] at e; have := hgg.out; omega)))
        have hb3 := Lib.hid (below_set hb2.out (show w.heap.size ≤ g9 by have := hg9w.out; omega) 3 (Value.slice (some ⟨g, 0, none⟩) n cap))
        clear hg3 hX2 hZ2 hN2 hrow2 hb2
        go_wp2_with fail
        clear k0 k1 k2 k3 z0 z1 z2 z3
        generalize w2.setCell ⟨g9, 3, none⟩ (Value.slice (some ⟨g, 0, none⟩) n cap) = w6 at *
        have hgS : Hid (g < w6.heap.size) := (hrow3.out.grown_base hl.out.symm).2
        have hcell : Hid (∀ wz, Below w6.heap.size w6 wz → wz.cell? ⟨g9, 0, none⟩ = some (Value.int .i64 (pj : Int)) ∧ wz.cell? ⟨g9, 3, none⟩ = some (Value.slice (some ⟨g, 0, none⟩) n cap) ∧ wz.cell? ⟨w.heap.size, 3, none⟩ = some (Value.slice (some ad) n c) ∧ wz.cell? (ad.add (pj * 3)) = some (Value.bool pu) ∧ wz.cell? ⟨(ad.add (pj * 3)).block, (ad.add (pj * 3)).off + 2, none⟩ = some (Value.slice pA pn pc)) := fun wz hz => by
          have q1 := hN3.out.below hz hN3.out.lt
          have q2 := hX3.out.below hz hX3.out.lt
          have q3 := hpc.out wz (hb3.out.trans (hz.mono hb3.out.size))
          exact ⟨q1.cell 0, q1.cell 3, q2.cell 3, q3.1, q3.2.2⟩
        have hcl : Hid (∀ wz, Below w6.heap.size w6 wz → Calls Try.prog 42 #[.slice pA pn pc] wz fun e w' => CopyRes wz w' pn pl e ∧ Below wz.heap.size wz w') := fun wz hz => copyLog_any pA pn pc pl wz (LogAt.more (LogAt.more hps.out hb3.out) hz) hpm.out.1 (Nat.le_trans hpm.out.2 (by omega))
        refine RUZ.region [] [] 14 (F := F22b w.heap.size g9 g pj n cap c pn pc w6.heap.size ad pA lv) (W := fun wz => Below w6.heap.size w6 wz) (R := fun _ => Rb) rfl F22b_more (by kernel_rfl) (by kernel_rfl) (by kernel_rfl) (by kernel_rfl) (by kernel_rfl) (by kernel_rfl) ?_ ?_ ?_ ?_
        · exact (Below.refl _ _).drew
        · intro t ht
          unfold F22b
          split <;> first | trivial | exact rfl | (exact absurd ht (by decide))
        · intro i o hi ho
          have hcs : i = 0 ∨ i = 1 ∨ i = 2 ∨ i = 3 ∨ i = 4 ∨ i = 5 ∨ i = 6 ∨ i = 7 ∨ i = 8 ∨ i = 9 ∨ i = 10 ∨ i = 11 ∨ i = 12 ∨ i = 13 := by omega
          rcases hcs with rfl | rfl | rfl | rfl | rfl | rfl | rfl | rfl | rfl | rfl | rfl | rfl | rfl | rfl <;> (injection ho with ho; subst ho)
          · intro a w2 hw _ hf K hK
            have f0 := hf 3 rfl
            simp only [F22b] at f0
            clear hf
            go_simp
            exact hK _ _ _ rfl rfl hw (Below.refl _ _) (fun h => absurd h (by decide))
          · intro a w2 hw _ hf K hK
            have f0 := hf 42 rfl
            simp only [F22b] at f0
            clear hf
            obtain ⟨n0, n3, b3, l0, l2⟩ := hcell.out w2 hw
            go_simp
            exact hK _ _ _ rfl rfl hw (Below.refl _ _) (fun h => absurd h (by decide))
          · intro a w2 hw _ hf K hK
            have f0 := hf 3 rfl
            simp only [F22b] at f0
            clear hf
            go_simp
            exact hK _ _ _ rfl rfl hw (Below.refl _ _) (fun h => absurd h (by decide))
          · intro a w2 hw _ hf K hK
            have f0 := hf 44 rfl
            simp only [F22b] at f0
            clear hf
            obtain ⟨n0, n3, b3, l0, l2⟩ := hcell.out w2 hw
            go_simp
            exact hK _ _ _ rfl rfl hw (Below.refl _ _) (fun h => absurd h (by decide))
          · intro a w2 hw _ hf K hK
            have f0 := hf 1 rfl
            simp only [F22b] at f0
            clear hf
            go_simp
            exact hK _ _ _ rfl rfl hw (Below.refl _ _) (fun h => absurd h (by decide))
          · intro a w2 hw _ hf K hK
            have f0 := hf 46 rfl
            simp only [F22b] at f0
            clear hf
            obtain ⟨n0, n3, b3, l0, l2⟩ := hcell.out w2 hw
            go_simp
            exact hK _ _ _ rfl rfl hw (Below.refl _ _) (fun h => absurd h (by decide))
          · intro a w2 hw _ hf K hK
            have f0 := hf 3 rfl
            simp only [F22b] at f0
            clear hf
            go_simp
            exact hK _ _ _ rfl rfl hw (Below.refl _ _) (fun h => absurd h (by decide))
          · intro a w2 hw _ hf K hK
            have f0 := hf 48 rfl
            simp only [F22b] at f0
            clear hf
            obtain ⟨n0, n3, b3, l0, l2⟩ := hcell.out w2 hw
            go_simp
            exact hK _ _ _ rfl rfl hw (Below.refl _ _) (fun h => absurd h (by decide))
          · intro a w2 hw _ hf K hK
            have f0 := hf 47 rfl
            have f1 := hf 49 rfl
            simp only [F22b] at f0 f1
            clear hf
            go_simp
            exact hK _ _ _ rfl rfl hw (Below.refl _ _) (fun h => absurd h (by decide))
          · intro a w2 hw _ hf K hK
            have f0 := hf 50 rfl
            simp only [F22b] at f0
            clear hf
            obtain ⟨n0, n3, b3, l0, l2⟩ := hcell.out w2 hw
            go_simp
            exact hK _ _ _ rfl rfl hw (Below.refl _ _) (fun h => absurd h (by decide))
          · intro a w2 hw _ hf K hK
            have f0 := hf 51 rfl
            simp only [F22b] at f0
            clear hf
            obtain ⟨n0, n3, b3, l0, l2⟩ := hcell.out w2 hw
            go_simp
            exact hK _ _ _ rfl rfl hw (Below.refl _ _) (fun h => absurd h (by decide))
          · intro a w2 hw _ hf K hK
            have f0 := hf 52 rfl
            simp only [F22b] at f0
            clear hf
            go_simp
            refine (hcl.out w2 hw).mono ?_; rintro e w5 ⟨⟨g5, l5, rfl, ho5, he5, hv5⟩, hbq⟩
            exact hK _ _ _ rfl ⟨some ⟨g5, 0, none⟩, pn + 1, l5, rfl, (LogAt.of_own ho5 (by have := congrArg List.length hv5; rw [List.length_map, List.length_map] at this; rw [this]; exact hpnl.out) (fun e he => (he5 e he).imp (fun b hb => hb.1))).imp (fun b hb => Nat.le_trans hw.size hb), hv5.trans hlv.out⟩ (hw.trans (hbq.mono hw.size)) hbq (fun h => absurd h (by decide))
          · intro a w2 hw _ hf K hK
            have f0 := hf 43 rfl
            have f1 := hf 45 rfl
            simp only [F22b] at f0 f1
            clear hf
            go_simp
            exact hK _ _ _ rfl (by show _ = _; first | rfl | rw [add_row]) hw (Below.refl _ _) (fun h => absurd h (by decide))
          · intro a w2 hw _ hf K hK
            have f0 := hf 54 rfl
            simp only [F22b] at f0
            clear hf
            go_simp
            exact hK _ _ _ rfl rfl hw (Below.refl _ _) (fun h => absurd h (by decide))
        · intro a' w9 hd hs hw hout hf
          have h53 := hf 11 53 (by decide) rfl rfl
          simp only [F22b] at h53
          have h55 := hf 13 55 (by decide) rfl rfl
          simp only [F22b] at h55
          have e0 := hout 0 rfl
          have e1 := hout 1 rfl
          have e2 := hout 2 rfl
          have e3 := hout 3 rfl
          have e4 := hout 4 rfl
          have e5 := hout 5 rfl
          have e6 := hout 6 rfl
          have e7 := hout 7 rfl
          have e8 := hout 8 rfl
          have e9 := hout 9 rfl
          have e10 := hout 10 rfl
          have e11 := hout 11 rfl
          have e12 := hout 12 rfl
          have e13 := hout 13 rfl
          have e14 := hout 14 rfl
          have e15 := hout 15 rfl
          have e16 := hout 16 rfl
          have e17 := hout 17 rfl
          have e18 := hout 18 rfl
          have e19 := hout 19 rfl
          have e20 := hout 20 rfl
          have e21 := hout 21 rfl
          have e22 := hout 22 rfl
          have e23 := hout 23 rfl
          have e24 := hout 24 rfl
          have e25 := hout 25 rfl
          have e26 := hout 26 rfl
          have e27 := hout 27 rfl
          have e28 := hout 28 rfl
          have e29 := hout 29 rfl
          have e30 := hout 30 rfl
          have e31 := hout 31 rfl
          have e32 := hout 32 rfl
          have e33 := hout 33 rfl
          have e34 := hout 34 rfl
          have e35 := hout 35 rfl
          have e36 := hout 36 rfl
          have e37 := hout 37 rfl
          have e38 := hout 38 rfl
          have e39 := hout 39 rfl
          have e40 := hout 40 rfl
          have e41 := hout 41 rfl
          have e82 := hout 82 rfl
          have e83 := hout 83 rfl
          have e84 := hout 84 rfl
          have e85 := hout 85 rfl
          have e86 := hout 86 rfl
          have e87 := hout 87 rfl
          have e88 := hout 88 rfl
          have e89 := hout 89 rfl
          have e90 := hout 90 rfl
          have e91 := hout 91 rfl
          simp only [List.getElem?_toArray, List.getElem?_cons_succ, List.getElem?_cons_zero] at e0 e1 e2 e3 e4 e5 e6 e7 e8 e9 e10 e11 e12 e13 e14 e15 e16 e17 e18 e19 e20 e21 e22 e23 e24 e25 e26 e27 e28 e29 e30 e31 e32 e33 e34 e35 e36 e37 e38 e39 e40 e41 e82 e83 e84 e85 e86 e87 e88 e89 e90 e91
          obtain ⟨tm, df⟩ := a'
          simp only at hd hs h53 h55 e0 e1 e2 e3 e4 e5 e6 e7 e8 e9 e10 e11 e12 e13 e14 e15 e16 e17 e18 e19 e20 e21 e22 e23 e24 e25 e26 e27 e28 e29 e30 e31 e32 e33 e34 e35 e36 e37 e38 e39 e40 e41 e82 e83 e84 e85 e86 e87 e88 e89 e90 e91
          have e := F22b_lit tm hs
          simp only [h55, e0, e1, e2, e3, e4, e5, e6, e7, e8, e9, e10, e11, e12, e13, e14, e15, e16, e17, e18, e19, e20, e21, e22, e23, e24, e25, e26, e27, e28, e29, e30, e31, e32, e33, e34, e35, e36, e37, e38, e39, e40, e41, e82, e83, e84, e85, e86, e87, e88, e89, e90, e91, Option.getD_some] at e
          clear hf hout hs
          rw [e, hd]
          clear e hd h55 e0 e1 e2 e3 e4 e5 e6 e7 e8 e9 e10 e11 e12 e13 e14 e15 e16 e17 e18 e19 e20 e21 e22 e23 e24 e25 e26 e27 e28 e29 e30 e31 e32 e33 e34 e35 e36 e37 e38 e39 e40 e41 e82 e83 e84 e85 e86 e87 e88 e89 e90 e91
          generalize tm[53]?.getD undef = u53x at h53 ⊢
          generalize tm[42]?.getD undef = u42x, tm[43]?.getD undef = u43x, tm[44]?.getD undef = u44x, tm[45]?.getD undef = u45x, tm[46]?.getD undef = u46x, tm[47]?.getD undef = u47x, tm[48]?.getD undef = u48x, tm[49]?.getD undef = u49x, tm[50]?.getD undef = u50x, tm[51]?.getD undef = u51x, tm[52]?.getD undef = u52x, tm[54]?.getD undef = u54x, tm[56]?.getD undef = u56x, tm[57]?.getD undef = u57x, tm[58]?.getD undef = u58x, tm[59]?.getD undef = u59x, tm[60]?.getD undef = u60x, tm[61]?.getD undef = u61x, tm[62]?.getD undef = u62x, tm[63]?.getD undef = u63x, tm[64]?.getD undef = u64x, tm[65]?.getD undef = u65x, tm[66]?.getD undef = u66x, tm[67]?.getD undef = u67x, tm[68]?.getD undef = u68x, tm[69]?.getD undef = u69x, tm[70]?.getD undef = u70x, tm[71]?.getD undef = u71x, tm[72]?.getD undef = u72x, tm[73]?.getD undef = u73x, tm[74]?.getD undef = u74x, tm[75]?.getD undef = u75x, tm[76]?.getD undef = u76x, tm[77]?.getD undef = u77x, tm[78]?.getD undef = u78x, tm[79]?.getD undef = u79x, tm[80]?.getD undef = u80x, tm[81]?.getD undef = u81x
          obtain ⟨A9, c9, l9, rfl, hl9, hv9⟩ := h53
          have hrow9 := Lib.hid (hrow3.out.kept hw)
          have hX9 := Lib.hid (hX3.out.below hw hX3.out.lt)
          have hZ9 := Lib.hid (hZ3.out.below hw hZ3.out.lt)
          have hN9 := Lib.hid (hN3.out.below hw hN3.out.lt)
          have hb9 : Hid (Below w.heap.size w w9) := hb3.out.trans (hw.mono hb3.out.size)
          replace hl9 := Lib.hid hl9
          replace hv9 := Lib.hid hv9
          clear hw hcell hcl hrow3 hX3 hZ3 hN3 hb3
          have c5 : w9.cell? ⟨g, pj * 3 + 2, none⟩ = some (Value.slice pA pn pc) := by
            rw [hrow9.out.cellAt hl.out.symm (k := pj) hpl (j := 2) (by decide), hpxe.out]; rfl
          have z5 : w9.frozen? ⟨g, pj * 3 + 2, none⟩ = false := hrow9.out.frozenAt hl.out.symm _
          have hrowS := (hrow9.out.storep hl.out.symm (k := pj) hpl (⟨pu, pv, A9, pn, c9, l9⟩ : Sm) 2 [Value.slice A9 pn c9] (by simp) (row_set hpl ⟨pu, pv, pA, pn, pc, pl⟩ _ 2 _ (by decide) hpxe.out (by
            intro j hj h1
            have : j = 0 ∨ j = 1 := by omega
            rcases this with rfl | rfl <;> rfl) rfl)).1
          replace hrowS : Hid (LOwn svC 3 47 (w9.setCell ⟨g, pj * 3 + 2, none⟩ (Value.slice A9 pn c9)) w.heap.size (.slice (some ⟨g, 0, none⟩) n cap) (sl.set pj ⟨pu, pv, A9, pn, c9, l9⟩)) := hrowS
          have hgS9 : Hid (w9.grownBy (w9.setCell ⟨g, pj * 3 + 2, none⟩ (Value.slice A9 pn c9)) (some g)) := only_set (World.grownBy.refl _ _) _ _
          have hXS := Lib.hid (hX9.out.grown hgS9.out (by intro e; injection e with e; have := hg9w.out; have := hgg.out; omega))
          have hZS := Lib.hid (hZ9.out.grown hgS9.out (by intro e; injection e with e; have := hg9w.out; have := hgg.out; omega))
          have hNS := Lib.hid (hN9.out.grown hgS9.out (by intro e; injection e with e; have := hg9w.out; have := hgg.out; omega))
          have hbS := Lib.hid (hb9.out.grown hgS9.out hb9.out.size (fun g8 e8 => by injection e8 with e8; have := hg9w.out; have := hgg.out; omega))
          have hES : Hid (∀ s ∈ sl.set pj ⟨pu, pv, A9, pn, c9, l9⟩, SmAt (w9.setCell ⟨g, pj * 3 + 2, none⟩ (Value.slice A9 pn c9)) (fun b => ((Q b ∧ b < w.heap.size) ∨ g9 < b) ∧ b ≠ g) s) := fun s hs => by
            rcases List.mem_or_eq_of_mem_set hs with hs | rfl
            · refine SmAt.imp (SmAt.st ((hcm.out.els s hs).more hb9.out) hgS9.out (fun b hb e => ?_)) (fun b hb => ⟨Or.inl hb, ?_⟩)
              · injection e with e; have := hb.2; have := hg9w.out; have := hgg.out; omega
              · have := hb.2; have := hg9w.out; have := hgg.out; omega
            · show LogAt _ (fun b => ((Q b ∧ b < w.heap.size) ∨ g9 < b) ∧ b ≠ g) _ _ _ _
              refine LogAt.imp (LogAt.st hl9.out hgS9.out (fun b hb e => ?_)) (fun b hb => ⟨Or.inr ?_, ?_⟩)
              · injection e with e; have := hgS.out; omega
              · have := hgS.out; have := hgg.out; omega
              · have := hgS.out; omega
          have hU0 : Hid ((sl.set pj (⟨pu, pv, A9, pn, c9, l9⟩ : Sm)).map Sm.val = sl.map Sm.val) := by
            show _ = _
            rw [List.map_set]
            refine set_same _ pj _ ?_
            rw [List.getElem?_map, hpo.out]
            show some (Sv.mk pu pv (pl.map Em.val)) = some (Sv.mk pu pv (l9.map Em.val))
            rw [hv9.out, hlv.out]
          have hUs : Hid (∀ u ∈ sl.map Sm.val, svSm u) := fun u hu => by
            obtain ⟨s, hs, rfl⟩ := List.mem_map.1 hu
            exact svSm_val (hcm.out.els s hs) (hsm.out s hs)
          clear hrow9 hX9 hZ9 hN9 hb9 hgS9 hl9
          obtain ⟨q0, q1, q2, q3⟩ := cells4 ((w9.setCell ⟨g, pj * 3 + 2, none⟩ (Value.slice A9 pn c9))) (g9) (Value.int .i64 (pj : Int)) (Value.int .i64 view) (Value.int .i64 commit) (Value.slice (some ⟨g, 0, none⟩) n cap) (hNS.out)
          go_wp2_with fail
          clear c5 z5 q0 q1 q2 q3
          generalize w9.setCell ⟨g, pj * 3 + 2, none⟩ (Value.slice A9 pn c9) = wS at *
          go_loopw [59] (fun i wr => ∃ (k : Nat) (T : List Sm), k ≤ n ∧ i = .int .i64 k ∧ Hid (T.length = n) ∧ Hid (LOwn svC 3 47 wr w.heap.size (.slice (some ⟨g, 0, none⟩) n cap) T) ∧ Hid (∀ s ∈ T, SmAt wr (fun b => ((Q b ∧ b < w.heap.size) ∨ g9 < b) ∧ b ≠ g) s) ∧ Hid (∀ u ∈ T.map Sm.val, svSm u) ∧ Hid (∃ s, (T.map Sm.val)[pj]? = some s ∧ s.log = lv) ∧ Hid (T.map Sm.val = (bringS view lv (sl.map Sm.val)).take k ++ (sl.map Sm.val).drop k) ∧ Hid (Blk wr w.heap.size 24 #[Value.int .i64 (pj : Int), Value.int .i64 view, Value.int .i64 commit, Value.slice (some ad) n c]) ∧ Hid (Blk wr (w.heap.size + 1) 24 #[Value.int .i64 0, Value.int .i64 0, Value.int .i64 0, Value.slice none 0 0]) ∧ Hid (Blk wr g9 24 #[Value.int .i64 (pj : Int), Value.int .i64 view, Value.int .i64 commit, Value.slice (some ⟨g, 0, none⟩) n cap]) ∧ Hid (Below w.heap.size w wr)) (fun i _ => n - (intOf i).toNat)
          case atStart => exact ⟨0, _, Nat.zero_le _, rfl, by show _ = _; rw [List.length_set]; exact hl.out, hrowS.out, hES.out, by rw [hU0.out]; exact hUs.out, by rw [hU0.out]; exact ⟨_, by rw [List.getElem?_map, hpo.out]; rfl, hlv.out⟩, by show _ = _; rw [hU0.out]; rfl, hXS.out, hZS.out, hNS.out, hbS.out⟩
          clear hrowS hES hXS hZS hNS hbS
          case round =>
            obtain ⟨k, T, hkn, rfl, hTn, hrow, hE, hTs, hTp, hRk, hX, hZ, hN, hb⟩ := hrel
            by_cases hlt : k < n
            · have hkT : k < T.length := by rw [hTn.out]; exact hlt
              have hk0 : (0 : Int) ≤ k := by omega
              have hk1 : (k : Int) < n := by omega
              have hkl : k < sl.length := by have := hl.out; (try simp only at this); omega
              obtain ⟨x, hx⟩ : ∃ x, T[k]? = some x := ⟨_, List.getElem?_eq_getElem hkT⟩
              have hxe : Hid (T[k] = x) := (List.getElem?_eq_some_iff.1 hx).2
              have hxo := Lib.hid hx
              clear hx
              have hUx : Hid ((T.map Sm.val)[k]? = some x.val) := by show _ = _; rw [List.getElem?_map, hxo.out]; rfl
              obtain ⟨xu, xv, xA, xn, xc, xl⟩ := x
              obtain ⟨e0, e1, e2⟩ := (show wr.cell? ⟨g, k * 3, none⟩ = some (Value.bool xu) ∧ wr.cell? ⟨g, k * 3 + 1, none⟩ = some (Value.int .i64 xv) ∧ wr.cell? ⟨g, k * 3 + 2, none⟩ = some (Value.slice xA xn xc) from by
                refine ⟨?_, ?_, ?_⟩
                · have := hrow.out.cellAt hTn.out.symm (k := k) hkT (j := 0) (by decide); rw [hxe.out] at this; exact this
                · have := hrow.out.cellAt hTn.out.symm (k := k) hkT (j := 1) (by decide); rw [hxe.out] at this; exact this
                · have := hrow.out.cellAt hTn.out.symm (k := k) hkT (j := 2) (by decide); rw [hxe.out] at this; exact this)
              have hbx : Hid (Below wr.heap.size wr (wr.alloc (.cells #[Value.bool xu, Value.int .i64 xv, Value.slice xA xn xc] 47))) := a1 wr _
              have hrowX := Lib.hid (hrow.out.kept hbx.out)
              have hXX := Lib.hid (hX.out.below hbx.out hX.out.lt)
              have hZX := Lib.hid (hZ.out.below hbx.out hZ.out.lt)
              have hNX := Lib.hid (hN.out.below hbx.out hN.out.lt)
              have hbX := Lib.hid (hb.out.trans (hbx.out.mono hb.out.size))
              have hEX : Hid (∀ s ∈ T, SmAt (wr.alloc (.cells #[Value.bool xu, Value.int .i64 xv, Value.slice xA xn xc] 47)) (fun b => ((Q b ∧ b < w.heap.size) ∨ g9 < b) ∧ b ≠ g) s) := fun s hs => (hE.out s hs).more hbx.out
              have hgX : Hid (g < (wr.alloc (.cells #[Value.bool xu, Value.int .i64 xv, Value.slice xA xn xc] 47)).heap.size) := (hrowX.out.grown_base hTn.out.symm).2
              have hy := Lib.hid (Blk.new wr 47 #[Value.bool xu, Value.int .i64 xv, Value.slice xA xn xc])
              clear hrow hX hZ hN hb hE hbx
              obtain ⟨q0, q1, q2, q3⟩ := cells4 ((wr.alloc (.cells #[Value.bool xu, Value.int .i64 xv, Value.slice xA xn xc] 47))) (g9) (Value.int .i64 (pj : Int)) (Value.int .i64 view) (Value.int .i64 commit) (Value.slice (some ⟨g, 0, none⟩) n cap) (hNX.out)
              obtain ⟨y0, y1, y2⟩ := cells3 ((wr.alloc (.cells #[Value.bool xu, Value.int .i64 xv, Value.slice xA xn xc] 47))) (wr.heap.size) (Value.bool xu) (Value.int .i64 xv) (Value.slice xA xn xc) (hy.out)
              cases xu with
              | true =>
                obtain ⟨p', hp'⟩ : ∃ p', T[pj]? = some p' := ⟨_, List.getElem?_eq_getElem (by rw [hTn.out]; exact hpn)⟩
                have hplv' : Hid (p'.log.map Em.val = lv) := by
                  obtain ⟨s, h1, h2⟩ := hTp.out
                  rw [List.getElem?_map, hp'] at h1
                  injection h1 with h1
                  rw [← h2, ← h1]
                  rfl
                have hpo' := Lib.hid hp'
                have hpsm := Lib.hid (svSm_of (hEX.out _ (List.mem_of_getElem? hp')) (hTs.out _ (List.mem_map.2 ⟨_, List.mem_of_getElem? hp', rfl⟩)))
                have hlvsm : Hid (∀ a b, svSm ⟨a, b, lv⟩) := fun a b => by
                  obtain ⟨s, h1, h2⟩ := hTp.out
                  have := hTs.out _ (List.mem_of_getElem? h1)
                  rw [← h2]
                  exact ⟨this.1, this.2⟩
                clear hp'
                have hup := Lib.hid (update_any pj view commit g n cap w.heap.size k T ⟨true, xv, xA, xn, xc, xl⟩ p' (wr.alloc (.cells #[Value.bool true, Value.int .i64 xv, Value.slice xA xn xc] 47)) hrowX.out hTn.out (by omega) hxo.out hpo'.out (hEX.out _ (List.mem_of_getElem? hxo.out)) (hEX.out _ (List.mem_of_getElem? hpo'.out)) (fun b hb => hb.2) hpsm.out)
                go_wp2_with fail
                refine hup.out.mono ?_; rintro e w6 ⟨rfl, ⟨s', hrow5, hs5, hv5⟩, hg5⟩
                have hX6 := Lib.hid (hXX.out.grown hg5 (by intro e; injection e with e; have := hg9w.out; have := hgg.out; omega))
                have hZ6 := Lib.hid (hZX.out.grown hg5 (by intro e; injection e with e; have := hg9w.out; have := hgg.out; omega))
                have hN6 := Lib.hid (hNX.out.grown hg5 (by intro e; injection e with e; have := hg9w.out; have := hgg.out; omega))
                have hb6 := Lib.hid (hbX.out.grown hg5 hbX.out.size (fun g8 e8 => by injection e8 with e8; have := hg9w.out; have := hgg.out; omega))
                have hE6 : Hid (∀ s ∈ T.set k s', SmAt w6 (fun b => ((Q b ∧ b < w.heap.size) ∨ g9 < b) ∧ b ≠ g) s) := fun s hs => by
                  rcases List.mem_or_eq_of_mem_set hs with hs | rfl
                  · exact (hEX.out s hs).st hg5 (fun b hb e => by injection e with e; exact hb.2 e)
                  · refine hs5.imp (fun b hb => ?_)
                    rcases hb with hb | hb
                    · exact hb
                    · have := hgX.out; have := hgg.out; exact ⟨Or.inr (by omega), by omega⟩
                have hv5' : s'.val = ⟨true, view, lv⟩ := by rw [hv5, show p'.log.map Em.val = lv from hplv'.out]
                have hU5 : (T.set k s').map Sm.val = (T.map Sm.val).set k ⟨true, view, lv⟩ := by rw [List.map_set, hv5']
                have hTs5 : Hid (∀ u ∈ (T.set k s').map Sm.val, svSm u) := fun u hu => by
                  rw [hU5] at hu
                  rcases List.mem_or_eq_of_mem_set hu with hu | rfl
                  · exact hTs.out u hu
                  · exact hlvsm.out _ _
                have hR5 : Hid ((T.set k s').map Sm.val = (bringS view lv (sl.map Sm.val)).take (k + 1) ++ (sl.map Sm.val).drop (k + 1)) := by
                  show _ = _
                  rw [hU5]
                  exact bring_up hRk.out hUx.out rfl
                have hT5 : Hid (∃ s, ((T.set k s').map Sm.val)[pj]? = some s ∧ s.log = lv) := by
                  rw [hU5]
                  by_cases hkp : k = pj
                  · subst hkp
                    exact ⟨_, List.getElem?_set_self (by rw [List.length_map]; exact hkT), rfl⟩
                  · rw [List.getElem?_set_ne hkp]
                    exact hTp.out
                have hrow5 := Lib.hid hrow5
                have hl5 : Hid ((T.set k s').length = n) := by show _ = _; rw [List.length_set]; exact hTn.out
                clear hup hs5 hv5 hg5 hv5' hU5
                go_wp2_with fail
                go_roundw
                case rel => exact ⟨k + 1, T.set k s', by omega, by go_num, hl5.out, hrow5.out, hE6.out, hTs5.out, hT5.out, hR5.out, hX6.out, hZ6.out, hN6.out, hb6.out⟩
                case measure => simp [intOf]; omega
              | false =>
                have hkp : k ≠ pj := fun e => by
                  subst e
                  have h1 := hUx.out
                  rw [hRk.out, List.getElem?_append_right (by rw [List.length_take]; omega)] at h1
                  have h2 : ((sl.map Sm.val).drop k)[k - ((bringS view lv (sl.map Sm.val)).take k).length]? = (sl.map Sm.val)[k]? := by
                    have h3 : ((bringS view lv (sl.map Sm.val)).take k).length = k := by rw [List.length_take]; unfold bringS; rw [List.length_map, List.length_map]; omega
                    rw [h3, Nat.sub_self, List.getElem?_drop]
                    rfl
                  rw [h2, List.getElem?_map, hpo.out] at h1
                  injection h1 with h1
                  have := congrArg Sv.up h1
                  exact absurd (show true = false from hpu.out.symm.trans this) (by decide)
                have q1d : ((k : Int) != (pj : Int)) = true := by simp; omega
                have hcell : Hid (∀ wz, Below (wr.alloc (.cells #[Value.bool false, Value.int .i64 xv, Value.slice xA xn xc] 47)).heap.size (wr.alloc (.cells #[Value.bool false, Value.int .i64 xv, Value.slice xA xn xc] 47)) wz → wz.cell? ⟨g9, 3, none⟩ = some (Value.slice (some ⟨g, 0, none⟩) n cap) ∧ wz.cell? ⟨wr.heap.size, 2, none⟩ = some (Value.slice xA xn xc)) := fun wz hz => ⟨(hNX.out.below hz hNX.out.lt).cell 3, (hy.out.below hz hy.out.lt).cell 2⟩
                have hxs2 := Lib.hid (hEX.out _ (List.mem_of_getElem? hxo.out))
                have hxm2 := Lib.hid (svSm_of hxs2.out (hTs.out _ (List.mem_map.2 ⟨_, List.mem_of_getElem? hxo.out, rfl⟩)))
                have hcl : Hid (∀ wz, Below (wr.alloc (.cells #[Value.bool false, Value.int .i64 xv, Value.slice xA xn xc] 47)).heap.size (wr.alloc (.cells #[Value.bool false, Value.int .i64 xv, Value.slice xA xn xc] 47)) wz → Calls Try.prog 42 #[.slice xA xn xc] wz fun e w' => CopyRes wz w' xn xl e ∧ Below wz.heap.size wz w') := fun wz hz => copyLog_any xA xn xc xl wz (SmAt.more hxs2.out hz) hxm2.out.1 hxm2.out.2
                obtain ⟨lv', hlv'⟩ : ∃ lv', xl.map Em.val = lv' := ⟨_, rfl⟩
                have hxl : Hid (xl.length = xn) := hxs2.out.len
                replace hlv' := Lib.hid hlv'
                go_wp2_with fail
                refine RUZ.region [] [] 8 (F := F22c g9 wr.heap.size g n cap k xn xc (wr.alloc (.cells #[Value.bool false, Value.int .i64 xv, Value.slice xA xn xc] 47)).heap.size xA lv') (W := fun wz => Below (wr.alloc (.cells #[Value.bool false, Value.int .i64 xv, Value.slice xA xn xc] 47)).heap.size (wr.alloc (.cells #[Value.bool false, Value.int .i64 xv, Value.slice xA xn xc] 47)) wz) (R := fun _ => Rb) rfl F22c_more (by kernel_rfl) (by kernel_rfl) (by kernel_rfl) (by kernel_rfl) (by kernel_rfl) (by kernel_rfl) ?_ ?_ ?_ ?_
                · exact (Below.refl _ _).drew
                · intro t ht
                  unfold F22c
                  split <;> first | trivial | exact rfl | (exact absurd ht (by decide))
                · intro i o hi ho
                  have hcs : i = 0 ∨ i = 1 ∨ i = 2 ∨ i = 3 ∨ i = 4 ∨ i = 5 ∨ i = 6 ∨ i = 7 := by omega
                  rcases hcs with rfl | rfl | rfl | rfl | rfl | rfl | rfl | rfl <;> (injection ho with ho; subst ho)
                  · intro a w2 hw _ hf K hK
                    have f0 := hf 3 rfl
                    simp only [F22c] at f0
                    clear hf
                    go_simp
                    exact hK _ _ _ rfl rfl hw (Below.refl _ _) (fun h => absurd h (by decide))
                  · intro a w2 hw _ hf K hK
                    have f0 := hf 73 rfl
                    simp only [F22c] at f0
                    clear hf
                    have e := (hcell.out w2 hw).1
                    go_simp
                    exact hK _ _ _ rfl rfl hw (Below.refl _ _) (fun h => absurd h (by decide))
                  · intro a w2 hw _ hf K hK
                    have f0 := hf 4 rfl
                    simp only [F22c] at f0
                    clear hf
                    go_simp
                    exact hK _ _ _ rfl rfl hw (Below.refl _ _) (fun h => absurd h (by decide))
                  · intro a w2 hw _ hf K hK
                    have f0 := hf 5 rfl
                    simp only [F22c] at f0
                    clear hf
                    go_simp
                    exact hK _ _ _ rfl rfl hw (Below.refl _ _) (fun h => absurd h (by decide))
                  · intro a w2 hw _ hf K hK
                    have f0 := hf 76 rfl
                    simp only [F22c] at f0
                    clear hf
                    have e := (hcell.out w2 hw).2
                    go_simp
                    exact hK _ _ _ rfl rfl hw (Below.refl _ _) (fun h => absurd h (by decide))
                  · intro a w2 hw _ hf K hK
                    have f0 := hf 77 rfl
                    simp only [F22c] at f0
                    clear hf
                    go_simp
                    refine (hcl.out w2 hw).mono ?_; rintro e w5 ⟨⟨g5, l5, rfl, ho5, he5, hv5⟩, hbq⟩
                    exact hK _ _ _ rfl ⟨some ⟨g5, 0, none⟩, xn + 1, l5, rfl, (LogAt.of_own ho5 (by have := congrArg List.length hv5; rw [List.length_map, List.length_map] at this; rw [this]; exact hxl.out) (fun e he => (he5 e he).imp (fun b hb => hb.1))).imp (fun b hb => Nat.le_trans hw.size hb), hv5.trans hlv'.out⟩ (hw.trans (hbq.mono hw.size)) hbq (fun h => absurd h (by decide))
                  · intro a w2 hw _ hf K hK
                    have f0 := hf 74 rfl
                    have f1 := hf 75 rfl
                    simp only [F22c] at f0 f1
                    clear hf
                    go_simp
                    exact hK _ _ _ rfl (by show _ = _; first | rfl | rw [add_row]) hw (Below.refl _ _) (fun h => absurd h (by decide))
                  · intro a w2 hw _ hf K hK
                    have f0 := hf 79 rfl
                    simp only [F22c] at f0
                    clear hf
                    go_simp
                    exact hK _ _ _ rfl rfl hw (Below.refl _ _) (fun h => absurd h (by decide))
                · intro a' w9 hd hs hw hout hf
                  have h78 := hf 5 78 (by decide) rfl rfl
                  simp only [F22c] at h78
                  have h80 := hf 7 80 (by decide) rfl rfl
                  simp only [F22c] at h80
                  have e0 := hout 0 rfl
                  have e1 := hout 1 rfl
                  have e2 := hout 2 rfl
                  have e3 := hout 3 rfl
                  have e4 := hout 4 rfl
                  have e5 := hout 5 rfl
                  have e6 := hout 6 rfl
                  have e7 := hout 7 rfl
                  have e8 := hout 8 rfl
                  have e9 := hout 9 rfl
                  have e10 := hout 10 rfl
                  have e11 := hout 11 rfl
                  have e12 := hout 12 rfl
                  have e13 := hout 13 rfl
                  have e14 := hout 14 rfl
                  have e15 := hout 15 rfl
                  have e16 := hout 16 rfl
                  have e17 := hout 17 rfl
                  have e18 := hout 18 rfl
                  have e19 := hout 19 rfl
                  have e20 := hout 20 rfl
                  have e21 := hout 21 rfl
                  have e22 := hout 22 rfl
                  have e23 := hout 23 rfl
                  have e24 := hout 24 rfl
                  have e25 := hout 25 rfl
                  have e26 := hout 26 rfl
                  have e27 := hout 27 rfl
                  have e28 := hout 28 rfl
                  have e29 := hout 29 rfl
                  have e30 := hout 30 rfl
                  have e31 := hout 31 rfl
                  have e32 := hout 32 rfl
                  have e33 := hout 33 rfl
                  have e34 := hout 34 rfl
                  have e35 := hout 35 rfl
                  have e36 := hout 36 rfl
                  have e37 := hout 37 rfl
                  have e38 := hout 38 rfl
                  have e39 := hout 39 rfl
                  have e40 := hout 40 rfl
                  have e41 := hout 41 rfl
                  have e42 := hout 42 rfl
                  have e43 := hout 43 rfl
                  have e44 := hout 44 rfl
                  have e45 := hout 45 rfl
                  have e46 := hout 46 rfl
                  have e47 := hout 47 rfl
                  have e48 := hout 48 rfl
                  have e49 := hout 49 rfl
                  have e50 := hout 50 rfl
                  have e51 := hout 51 rfl
                  have e52 := hout 52 rfl
                  have e53 := hout 53 rfl
                  have e54 := hout 54 rfl
                  have e55 := hout 55 rfl
                  have e56 := hout 56 rfl
                  have e57 := hout 57 rfl
                  have e58 := hout 58 rfl
                  have e59 := hout 59 rfl
                  have e82 := hout 82 rfl
                  have e83 := hout 83 rfl
                  have e84 := hout 84 rfl
                  have e85 := hout 85 rfl
                  have e86 := hout 86 rfl
                  have e87 := hout 87 rfl
                  have e88 := hout 88 rfl
                  have e89 := hout 89 rfl
                  have e90 := hout 90 rfl
                  have e91 := hout 91 rfl
                  simp only [List.getElem?_toArray, List.getElem?_cons_succ, List.getElem?_cons_zero] at e0 e1 e2 e3 e4 e5 e6 e7 e8 e9 e10 e11 e12 e13 e14 e15 e16 e17 e18 e19 e20 e21 e22 e23 e24 e25 e26 e27 e28 e29 e30 e31 e32 e33 e34 e35 e36 e37 e38 e39 e40 e41 e42 e43 e44 e45 e46 e47 e48 e49 e50 e51 e52 e53 e54 e55 e56 e57 e58 e59 e82 e83 e84 e85 e86 e87 e88 e89 e90 e91
                  obtain ⟨tm, df⟩ := a'
                  simp only at hd hs h78 h80 e0 e1 e2 e3 e4 e5 e6 e7 e8 e9 e10 e11 e12 e13 e14 e15 e16 e17 e18 e19 e20 e21 e22 e23 e24 e25 e26 e27 e28 e29 e30 e31 e32 e33 e34 e35 e36 e37 e38 e39 e40 e41 e42 e43 e44 e45 e46 e47 e48 e49 e50 e51 e52 e53 e54 e55 e56 e57 e58 e59 e82 e83 e84 e85 e86 e87 e88 e89 e90 e91
                  have e := F22c_lit tm hs
                  simp only [h80, e0, e1, e2, e3, e4, e5, e6, e7, e8, e9, e10, e11, e12, e13, e14, e15, e16, e17, e18, e19, e20, e21, e22, e23, e24, e25, e26, e27, e28, e29, e30, e31, e32, e33, e34, e35, e36, e37, e38, e39, e40, e41, e42, e43, e44, e45, e46, e47, e48, e49, e50, e51, e52, e53, e54, e55, e56, e57, e58, e59, e82, e83, e84, e85, e86, e87, e88, e89, e90, e91, Option.getD_some] at e
                  clear hf hout hs
                  rw [e, hd]
                  clear e hd h80 e0 e1 e2 e3 e4 e5 e6 e7 e8 e9 e10 e11 e12 e13 e14 e15 e16 e17 e18 e19 e20 e21 e22 e23 e24 e25 e26 e27 e28 e29 e30 e31 e32 e33 e34 e35 e36 e37 e38 e39 e40 e41 e42 e43 e44 e45 e46 e47 e48 e49 e50 e51 e52 e53 e54 e55 e56 e57 e58 e59 e82 e83 e84 e85 e86 e87 e88 e89 e90 e91
                  generalize tm[78]?.getD undef = u78x at h78 ⊢
                  generalize tm[60]?.getD undef = u60x, tm[61]?.getD undef = u61x, tm[62]?.getD undef = u62x, tm[63]?.getD undef = u63x, tm[64]?.getD undef = u64x, tm[65]?.getD undef = u65x, tm[66]?.getD undef = u66x, tm[67]?.getD undef = u67x, tm[68]?.getD undef = u68x, tm[69]?.getD undef = u69x, tm[70]?.getD undef = u70x, tm[71]?.getD undef = u71x, tm[72]?.getD undef = u72x, tm[73]?.getD undef = u73x, tm[74]?.getD undef = u74x, tm[75]?.getD undef = u75x, tm[76]?.getD undef = u76x, tm[77]?.getD undef = u77x, tm[79]?.getD undef = u79x, tm[81]?.getD undef = u81x
                  obtain ⟨A9, c9, l9, rfl, hl9, hv9'⟩ := h78
                  have hrow9 := Lib.hid (hrowX.out.kept hw)
                  have hX9 := Lib.hid (hXX.out.below hw hXX.out.lt)
                  have hZ9 := Lib.hid (hZX.out.below hw hZX.out.lt)
                  have hN9 := Lib.hid (hNX.out.below hw hNX.out.lt)
                  have hb9 : Hid (Below w.heap.size w w9) := hbX.out.trans (hw.mono hbX.out.size)
                  have hE9 : Hid (∀ s ∈ T, SmAt w9 (fun b => ((Q b ∧ b < w.heap.size) ∨ g9 < b) ∧ b ≠ g) s) := fun s hs => (hEX.out s hs).more hw
                  replace hl9 := Lib.hid hl9
                  replace hv9' := Lib.hid hv9'
                  clear hw hcell hcl
                  have c5 : w9.cell? ⟨g, k * 3 + 2, none⟩ = some (Value.slice xA xn xc) := by
                    rw [hrow9.out.cellAt hTn.out.symm (k := k) hkT (j := 2) (by decide), hxe.out]; rfl
                  have z5 : w9.frozen? ⟨g, k * 3 + 2, none⟩ = false := hrow9.out.frozenAt hTn.out.symm _
                  have hrow3 := (hrow9.out.storep hTn.out.symm (k := k) hkT (⟨false, xv, A9, xn, c9, l9⟩ : Sm) 2 [Value.slice A9 xn c9] (by simp) (row_set hkT ⟨false, xv, xA, xn, xc, xl⟩ _ 2 _ (by decide) hxe.out (by
                    intro j hj h1
                    have : j = 0 ∨ j = 1 := by omega
                    rcases this with rfl | rfl <;> rfl) rfl)).1
                  replace hrow3 : Hid (LOwn svC 3 47 (w9.setCell ⟨g, k * 3 + 2, none⟩ (Value.slice A9 xn c9)) w.heap.size (.slice (some ⟨g, 0, none⟩) n cap) (T.set k (⟨false, xv, A9, xn, c9, l9⟩ : Sm))) := hrow3
                  have hg3 : Hid (w9.grownBy (w9.setCell ⟨g, k * 3 + 2, none⟩ (Value.slice A9 xn c9)) (some g)) := only_set (World.grownBy.refl _ _) _ _
                  have hE3 : Hid (∀ s ∈ T.set k (⟨false, xv, A9, xn, c9, l9⟩ : Sm), SmAt (w9.setCell ⟨g, k * 3 + 2, none⟩ (Value.slice A9 xn c9)) (fun b => ((Q b ∧ b < w.heap.size) ∨ g9 < b) ∧ b ≠ g) s) := fun s hs => by
                    rcases List.mem_or_eq_of_mem_set hs with hs | rfl
                    · exact (hE9.out s hs).st hg3.out (fun b hb e => by injection e with e; exact hb.2 e)
                    · show LogAt _ (fun b => ((Q b ∧ b < w.heap.size) ∨ g9 < b) ∧ b ≠ g) _ _ _ _
                      refine LogAt.imp (LogAt.st hl9.out hg3.out (fun b hb e => ?_)) (fun b hb => ?_)
                      · injection e with e; have := hgX.out; omega
                      · have := hgX.out; have := hgg.out; exact ⟨Or.inr (by omega), by omega⟩
                  have hU3 : (T.set k (⟨false, xv, A9, xn, c9, l9⟩ : Sm)).map Sm.val = T.map Sm.val := by
                    rw [List.map_set]
                    refine set_same _ k _ ?_
                    rw [hUx.out]
                    show some (Sv.mk false xv (xl.map Em.val)) = some (Sv.mk false xv (l9.map Em.val))
                    rw [hv9'.out, hlv'.out]
                  have hR3 : Hid ((T.set k (⟨false, xv, A9, xn, c9, l9⟩ : Sm)).map Sm.val = (bringS view lv (sl.map Sm.val)).take (k + 1) ++ (sl.map Sm.val).drop (k + 1)) := by
                    show _ = _
                    rw [hU3]
                    exact bring_skip hRk.out hUx.out rfl
                  have hTs3 : Hid (∀ u ∈ (T.set k (⟨false, xv, A9, xn, c9, l9⟩ : Sm)).map Sm.val, svSm u) := by rw [hU3]; exact hTs.out
                  have hT3 : Hid (∃ s, ((T.set k (⟨false, xv, A9, xn, c9, l9⟩ : Sm)).map Sm.val)[pj]? = some s ∧ s.log = lv) := by rw [hU3]; exact hTp.out
                  have hl3 : Hid ((T.set k (⟨false, xv, A9, xn, c9, l9⟩ : Sm)).length = n) := by show _ = _; rw [List.length_set]; exact hTn.out
                  clear hU3
                  go_wp2_with fail
                  go_roundw
                  case rel => exact ⟨k + 1, T.set k (⟨false, xv, A9, xn, c9, l9⟩ : Sm), by omega, by go_num, hl3.out, hrow3.out, hE3.out, hTs3.out, hT3.out, hR3.out, hX9.out.grown hg3.out (by intro e; injection e with e; have := hg9w.out; have := hgg.out; omega), hZ9.out.grown hg3.out (by intro e; injection e with e; have := hg9w.out; have := hgg.out; omega), hN9.out.grown hg3.out (by intro e; injection e with e; have := hg9w.out; have := hgg.out; omega), hb9.out.grown hg3.out hb9.out.size (fun g8 e8 => by injection e8 with e8; have := hg9w.out; have := hgg.out; omega)⟩
                  case measure => simp [intOf]; omega
            · obtain rfl : n = k := by omega
              have hRf : Hid (T.map Sm.val = bringS view lv (sl.map Sm.val)) := by
                show _ = _
                have e1 : (bringS view lv (sl.map Sm.val)).length = n := by unfold bringS; rw [List.length_map, List.length_map]; exact hl.out
                rw [hRk.out, List.take_of_length_le (by rw [e1]; exact Nat.le_refl _), List.drop_eq_nil_of_le (by rw [List.length_map, hl.out]; exact Nat.le_refl _), List.append_nil]
              obtain ⟨p', hp'⟩ : ∃ p', T[pj]? = some p' := ⟨_, List.getElem?_eq_getElem (by rw [hTn.out]; exact hpn)⟩
              have hpT : pj < T.length := by rw [hTn.out]; exact hpn
              have hpe : Hid (T[pj] = p') := (List.getElem?_eq_some_iff.1 hp').2
              have hqn : Hid (p'.n = lv.length) := by
                show _ = _
                obtain ⟨s, h1, h2⟩ := hTp.out
                rw [List.getElem?_map, hp'] at h1
                injection h1 with h1
                have h3 := (hE.out _ (List.mem_of_getElem? hp')).len
                rw [← h2, ← h1]
                show _ = (p'.log.map Em.val).length
                rw [List.length_map, h3]
              clear hp' hRk
              obtain ⟨qu, qv, qA, qn, qc, ql⟩ := p'
              (try simp only at hqn)
              have e2 : wr.cell? ⟨g, pj * 3 + 2, none⟩ = some (Value.slice qA qn qc) := by
                have := hrow.out.cellAt hTn.out.symm (k := pj) hpT (j := 2) (by decide); rw [hpe.out] at this; exact this
              have hgA : Hid (wr.grownBy (wr.setCell ⟨g9, 2, none⟩ (Value.int .i64 (qn : Int))) (some g9)) := only_set (World.grownBy.refl _ _) _ _
              have hNA := Lib.hid (hN.out.set_ 2 (Value.int .i64 (qn : Int)))
              have hZA := Lib.hid (hZ.out.grown hgA.out (by intro e; injection e with e; have := hg9w.out; omega))
              have hbA := Lib.hid (below_set hb.out (show w.heap.size ≤ g9 by have := hg9w.out; omega) 2 (Value.int .i64 (qn : Int)))
              have hrowA := Lib.hid (hrow.out.grownO hgA.out (.inr (by intro e; simp [Value.ownBlock] at e; have := hgg.out; omega)))
              have hEA : Hid (∀ s ∈ T, SmAt (wr.setCell ⟨g9, 2, none⟩ (Value.int .i64 (qn : Int))) (fun b => (Q b ∧ b < w.heap.size) ∨ g9 < b) s) := fun s hs => ((hE.out s hs).st hgA.out (fun b hb e => by injection e with e; have := hb.1; have := hg9w.out; omega)).imp (fun b hb => hb.1)
              obtain ⟨q0, q1, q2, q3, x0, x1, x2, x3⟩ := cells4z (wr) (g9) (Value.int .i64 (pj : Int)) (Value.int .i64 view) (Value.int .i64 commit) (Value.slice (some ⟨g, 0, none⟩) n cap) (hN.out)
              obtain ⟨m0, m1, m2, m3⟩ := cells4 ((wr.setCell ⟨g9, 2, none⟩ (Value.int .i64 (qn : Int)))) (g9) (Value.int .i64 (pj : Int)) (Value.int .i64 view) (Value.int .i64 (qn : Int)) (Value.slice (some ⟨g, 0, none⟩) n cap) (hNA.out)
              obtain ⟨u0, u1, u2, u3, y0, y1, y2, y3⟩ := cells4z ((wr.setCell ⟨g9, 2, none⟩ (Value.int .i64 (qn : Int)))) ((w.heap.size + 1)) (Value.int .i64 0) (Value.int .i64 0) (Value.int .i64 0) (Value.slice none 0 0) (hZA.out)
              go_wp2_with fail
              (try simp only [Exit.inBlock, Exit.then])
              have hBF := cl_set4 hZA.out (Value.int .i64 (pj : Int)) (Value.int .i64 view) (Value.int .i64 (qn : Int)) (Value.slice (some ⟨g, 0, none⟩) n cap)
              have hbF := below_set4 hbA.out (Nat.le_succ _) (Value.int .i64 (pj : Int)) (Value.int .i64 view) (Value.int .i64 (qn : Int)) (Value.slice (some ⟨g, 0, none⟩) n cap)
              have hgF := grown_set4 ((wr.setCell ⟨g9, 2, none⟩ (Value.int .i64 (qn : Int)))) (w.heap.size + 1) (Value.int .i64 (pj : Int)) (Value.int .i64 view) (Value.int .i64 (qn : Int)) (Value.slice (some ⟨g, 0, none⟩) n cap)
              refine bodyPost_ret (v := .agg #[Value.int .i64 (pj : Int), Value.int .i64 view, Value.int .i64 (qn : Int), Value.slice (some ⟨g, 0, none⟩) n cap]) ?_ rfl ?_
              · exact results_cell_row (h := rfl) _ _ (w.heap.size + 1) 24 _ (0, 0) _ rfl hBF Try.underlying24 rfl (by kernel_rfl)
              clear hBF
              generalize (((((wr.setCell ⟨g9, 2, none⟩ (Value.int .i64 (qn : Int))).setCell ⟨(w.heap.size + 1), 0, none⟩ (Value.int .i64 (pj : Int))).setCell ⟨(w.heap.size + 1), 1, none⟩ (Value.int .i64 view)).setCell ⟨(w.heap.size + 1), 2, none⟩ (Value.int .i64 (qn : Int))).setCell ⟨(w.heap.size + 1), 3, none⟩ (Value.slice (some ⟨g, 0, none⟩) n cap)) = wF at *
              have hC := CmAt.of_own (p := (pj : Int)) (v := view) (m := (qn : Int)) (Q := (fun b => (Q b ∧ b < w.heap.size) ∨ g9 < b)) (hrowA.out.grownO hgF (.inr (by intro e; simp [Value.ownBlock] at e; have := hgg.out; have := hg9w.out; omega))) hTn.out (fun s hs => (hEA.out s hs).st hgF (fun b hb e => by injection e with e; have := hg9w.out; omega)) (Or.inr hgg.out)
              refine ⟨⟨_, rfl, hC.imp (fun b hb => hb.elim (fun h => Or.inl h.1) (fun h => Or.inr (by have := hg9w.out; omega))), ?_⟩, hbF⟩
              rw [hF.out]
              show Cv.mk _ _ _ (T.map Sm.val) = _
              rw [hRf.out, hqn.out]
end Go.Proofs.Ytiapeenfggjpnaa
