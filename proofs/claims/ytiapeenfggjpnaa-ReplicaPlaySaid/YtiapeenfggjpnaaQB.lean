/- Replicated servers: the reference's Submit, walked. -/
import Derived.Test.YtiapeenfggjpnaaQA
import Derived.Test.YtiapeenfggjpnaaPM
set_option linter.unusedVariables false
set_option linter.unusedSimpArgs false
namespace Go.Proofs.Ytiapeenfggjpnaa
open Go.RowKit
theorem sumD_val0 (l : List Em) : ((l.map Em.val).map (·.d.length)).sum = sumD l := by unfold sumD; rw [List.map_map]; rfl
def SvB (base n : Nat) (view : Int) (lv : List En) (v : Value) (w : World) : Prop := ∃ A c l, v = .agg #[.bool true, .int .i64 view, .slice A n c] ∧ LogAt w (fun b => base ≤ b) A n c l ∧ l.map Em.val = lv
theorem SvB.more {base n : Nat} {view : Int} {lv : List En} {v : Value} {w w' : World} (h : SvB base n view lv v w) (hb : Below w.heap.size w w') : SvB base n view lv v w' := by
  obtain ⟨A, c, l, h1, h2, h3⟩ := h
  exact ⟨A, c, l, h1, h2.more hb, h3⟩
def F31a (gx dc base : Nat) (ov : Value) (dA : Option Addr) (view : Int) (d : List UInt8) (L : List Em) : Tmp → Value → World → Prop
  | 1, v, _ => v = .slice dA d.length dc
  | 3, v, _ => v = .pointer (some ⟨gx, 0, none⟩)
  | 9, v, _ => v = ov
  | 39, v, _ => v = ov
  | 40, v, _ => v = .pointer (some ⟨gx, 1, none⟩)
  | 41, v, _ => v = .int .i64 view
  | 42, v, w => E5 base v w
  | 43, v, _ => v = .slice dA d.length dc
  | 44, v, w => BOwn w base v d
  | 45, v, w => EnV base view d v w
  | 46, v, w => OneV base view d v w
  | 47, v, w => LogX base L view d v w
  | _, _, _ => True
def RF31a (d : Tmp) (w w' : World) : Prop := if d = 47 then R59 w w' else Below w.heap.size w w'
theorem F31a_more {gx dc base : Nat} {ov : Value} {dA : Option Addr} {view : Int} {d : List UInt8} {L : List Em} (dd t : Tmp) (v : Value) (w w' : World) (hR : RF31a dd w w') (hne : t ≠ dd) (hc : [((47 : Nat), (46 : Nat))].contains (dd, t) = false) (h : F31a gx dc base ov dA view d L t v w) : F31a gx dc base ov dA view d L t v w' := by
  unfold RF31a at hR
  by_cases hd : dd = 47
  · subst hd
    rw [if_pos rfl] at hR
    unfold F31a at *
    split at h <;> first
      | exact h
      | exact absurd rfl hne
      | exact absurd hc (by decide)
      | exact hR.own h
      | exact hR.e5 h
      | (obtain ⟨A8, c8, e8, h8⟩ := h; exact ⟨A8, c8, e8, hR.own h8⟩)
  · rw [if_neg hd] at hR
    unfold F31a at *
    split at h <;> first | exact h | exact LogR.more h hR | exact EnV.more h hR | exact OneV.more h hR | exact LogX.more h hR | exact LOwn.kept h hR | exact E5.more h hR
theorem F31a_lit (tm : Array Value) (hs : tm.size = 117) : tm = #[tm[0]?.getD undef, tm[1]?.getD undef, tm[2]?.getD undef, tm[3]?.getD undef, tm[4]?.getD undef, tm[5]?.getD undef, tm[6]?.getD undef, tm[7]?.getD undef, tm[8]?.getD undef, tm[9]?.getD undef, tm[10]?.getD undef, tm[11]?.getD undef, tm[12]?.getD undef, tm[13]?.getD undef, tm[14]?.getD undef, tm[15]?.getD undef, tm[16]?.getD undef, tm[17]?.getD undef, tm[18]?.getD undef, tm[19]?.getD undef, tm[20]?.getD undef, tm[21]?.getD undef, tm[22]?.getD undef, tm[23]?.getD undef, tm[24]?.getD undef, tm[25]?.getD undef, tm[26]?.getD undef, tm[27]?.getD undef, tm[28]?.getD undef, tm[29]?.getD undef, tm[30]?.getD undef, tm[31]?.getD undef, tm[32]?.getD undef, tm[33]?.getD undef, tm[34]?.getD undef, tm[35]?.getD undef, tm[36]?.getD undef, tm[37]?.getD undef, tm[38]?.getD undef, tm[39]?.getD undef, tm[40]?.getD undef, tm[41]?.getD undef, tm[42]?.getD undef, tm[43]?.getD undef, tm[44]?.getD undef, tm[45]?.getD undef, tm[46]?.getD undef, tm[47]?.getD undef, tm[48]?.getD undef, tm[49]?.getD undef, tm[50]?.getD undef, tm[51]?.getD undef, tm[52]?.getD undef, tm[53]?.getD undef, tm[54]?.getD undef, tm[55]?.getD undef, tm[56]?.getD undef, tm[57]?.getD undef, tm[58]?.getD undef, tm[59]?.getD undef, tm[60]?.getD undef, tm[61]?.getD undef, tm[62]?.getD undef, tm[63]?.getD undef, tm[64]?.getD undef, tm[65]?.getD undef, tm[66]?.getD undef, tm[67]?.getD undef, tm[68]?.getD undef, tm[69]?.getD undef, tm[70]?.getD undef, tm[71]?.getD undef, tm[72]?.getD undef, tm[73]?.getD undef, tm[74]?.getD undef, tm[75]?.getD undef, tm[76]?.getD undef, tm[77]?.getD undef, tm[78]?.getD undef, tm[79]?.getD undef, tm[80]?.getD undef, tm[81]?.getD undef, tm[82]?.getD undef, tm[83]?.getD undef, tm[84]?.getD undef, tm[85]?.getD undef, tm[86]?.getD undef, tm[87]?.getD undef, tm[88]?.getD undef, tm[89]?.getD undef, tm[90]?.getD undef, tm[91]?.getD undef, tm[92]?.getD undef, tm[93]?.getD undef, tm[94]?.getD undef, tm[95]?.getD undef, tm[96]?.getD undef, tm[97]?.getD undef, tm[98]?.getD undef, tm[99]?.getD undef, tm[100]?.getD undef, tm[101]?.getD undef, tm[102]?.getD undef, tm[103]?.getD undef, tm[104]?.getD undef, tm[105]?.getD undef, tm[106]?.getD undef, tm[107]?.getD undef, tm[108]?.getD undef, tm[109]?.getD undef, tm[110]?.getD undef, tm[111]?.getD undef, tm[112]?.getD undef, tm[113]?.getD undef, tm[114]?.getD undef, tm[115]?.getD undef, tm[116]?.getD undef] := lit_arr tm 117 hs
def F31b (g9 gx g n cap k ln lc base : Nat) (lA : Option Addr) (view : Int) (lv : List En) : Tmp → Value → World → Prop
  | 3, v, _ => v = .pointer (some ⟨gx, 0, none⟩)
  | 9, v, _ => v = .slice lA ln lc
  | 10, v, _ => v = .pointer (some ⟨g9, 0, none⟩)
  | 12, v, _ => v = .int .i64 (k : Int)
  | 85, v, _ => v = .pointer (some ⟨g9, 3, none⟩)
  | 86, v, _ => v = .slice (some ⟨g, 0, none⟩) n cap
  | 87, v, _ => v = .int .i64 (k : Int)
  | 88, v, _ => v = .pointer (some ⟨gx, 1, none⟩)
  | 89, v, _ => v = .int .i64 view
  | 90, v, _ => v = .slice lA ln lc
  | 91, v, w => LogV base ln lv v w
  | 92, v, w => SvB base ln view lv v w
  | _, _, _ => True
theorem F31b_more {g9 gx g n cap k ln lc base : Nat} {lA : Option Addr} {view : Int} {lv : List En} (d t : Tmp) (v : Value) (w w' : World) (hR : Rb w w') (hne : t ≠ d) (hc : ([] : List (Tmp × Tmp)).contains (d, t) = false) (h : F31b g9 gx g n cap k ln lc base lA view lv t v w) : F31b g9 gx g n cap k ln lc base lA view lv t v w' := by
  unfold F31b at *
  split at h <;> first | exact h | exact LogV.more h hR | exact fun hg => LogV.more (h hg) hR | exact SvB.more h hR | exact fun hg => SvB.more (h hg) hR
theorem F31b_lit (tm : Array Value) (hs : tm.size = 117) : tm = #[tm[0]?.getD undef, tm[1]?.getD undef, tm[2]?.getD undef, tm[3]?.getD undef, tm[4]?.getD undef, tm[5]?.getD undef, tm[6]?.getD undef, tm[7]?.getD undef, tm[8]?.getD undef, tm[9]?.getD undef, tm[10]?.getD undef, tm[11]?.getD undef, tm[12]?.getD undef, tm[13]?.getD undef, tm[14]?.getD undef, tm[15]?.getD undef, tm[16]?.getD undef, tm[17]?.getD undef, tm[18]?.getD undef, tm[19]?.getD undef, tm[20]?.getD undef, tm[21]?.getD undef, tm[22]?.getD undef, tm[23]?.getD undef, tm[24]?.getD undef, tm[25]?.getD undef, tm[26]?.getD undef, tm[27]?.getD undef, tm[28]?.getD undef, tm[29]?.getD undef, tm[30]?.getD undef, tm[31]?.getD undef, tm[32]?.getD undef, tm[33]?.getD undef, tm[34]?.getD undef, tm[35]?.getD undef, tm[36]?.getD undef, tm[37]?.getD undef, tm[38]?.getD undef, tm[39]?.getD undef, tm[40]?.getD undef, tm[41]?.getD undef, tm[42]?.getD undef, tm[43]?.getD undef, tm[44]?.getD undef, tm[45]?.getD undef, tm[46]?.getD undef, tm[47]?.getD undef, tm[48]?.getD undef, tm[49]?.getD undef, tm[50]?.getD undef, tm[51]?.getD undef, tm[52]?.getD undef, tm[53]?.getD undef, tm[54]?.getD undef, tm[55]?.getD undef, tm[56]?.getD undef, tm[57]?.getD undef, tm[58]?.getD undef, tm[59]?.getD undef, tm[60]?.getD undef, tm[61]?.getD undef, tm[62]?.getD undef, tm[63]?.getD undef, tm[64]?.getD undef, tm[65]?.getD undef, tm[66]?.getD undef, tm[67]?.getD undef, tm[68]?.getD undef, tm[69]?.getD undef, tm[70]?.getD undef, tm[71]?.getD undef, tm[72]?.getD undef, tm[73]?.getD undef, tm[74]?.getD undef, tm[75]?.getD undef, tm[76]?.getD undef, tm[77]?.getD undef, tm[78]?.getD undef, tm[79]?.getD undef, tm[80]?.getD undef, tm[81]?.getD undef, tm[82]?.getD undef, tm[83]?.getD undef, tm[84]?.getD undef, tm[85]?.getD undef, tm[86]?.getD undef, tm[87]?.getD undef, tm[88]?.getD undef, tm[89]?.getD undef, tm[90]?.getD undef, tm[91]?.getD undef, tm[92]?.getD undef, tm[93]?.getD undef, tm[94]?.getD undef, tm[95]?.getD undef, tm[96]?.getD undef, tm[97]?.getD undef, tm[98]?.getD undef, tm[99]?.getD undef, tm[100]?.getD undef, tm[101]?.getD undef, tm[102]?.getD undef, tm[103]?.getD undef, tm[104]?.getD undef, tm[105]?.getD undef, tm[106]?.getD undef, tm[107]?.getD undef, tm[108]?.getD undef, tm[109]?.getD undef, tm[110]?.getD undef, tm[111]?.getD undef, tm[112]?.getD undef, tm[113]?.getD undef, tm[114]?.getD undef, tm[115]?.getD undef, tm[116]?.getD undef] := lit_arr tm 117 hs
set_option maxRecDepth 100000 in
set_option maxHeartbeats 8000000 in
theorem rsubmit_any (k : Cm) (dA : Option Addr) (dc : Nat) (d : List UInt8) (reach : Int) (w : World) {Q : Nat → Prop} (h : CmAt w Q k) (hs : CmSm2 k) (hp1 : k.primary < k.n) (hda : BAt w w.heap.size dA d.length d) :
    Calls Try.prog 31 #[clV k, .slice dA d.length dc, .int .i64 reach] w fun e w' => ResS Q w w' (submitC k.val d reach) e ∧ Below w.heap.size w w' := by
  obtain ⟨r, hr⟩ : ∃ r, r = submitC k.val d reach := ⟨_, rfl⟩
  rw [← hr]
  have hl : Hid (k.servers.length = k.n) := h.len
  have hcm := Lib.hid h.lt
  have hs1 : Hid (CmSm k) := ⟨hs.1, Nat.le_trans hs.2.1 (by decide), fun s hx => ⟨(hs.2.2 s hx).1, Nat.le_trans (hs.2.2 s hx).2 (by decide)⟩⟩
  obtain ⟨hn1, hn7, hsm⟩ := hs
  have e : k.val.servers.length = k.n := by show (k.servers.map Sm.val).length = _; rw [List.length_map]; exact hl.out
  obtain ⟨mj, hmj0⟩ : ∃ mj, mj = majN k.n (countUp (k.servers.map Sm.val)) := ⟨_, rfl⟩
  have hno : Hid (k.primary < 0 ∨ mj = false → submitC k.val d reach = (k.val, 0, 24)) := by
    intro hb
    unfold submitC
    cases hpo : primOf k.val with
    | none => rfl
    | some p =>
      simp only
      have hmf : mj = false := by
        rcases hb with hb | hb
        · unfold primOf at hpo
          have hb : k.val.primary < 0 := hb
          rw [if_pos hb] at hpo
          cases hpo
        · exact hb
      have hmf : majN k.val.servers.length (countUp k.val.servers) = false := by
        rw [e]
        exact hmj0.symm.trans hmf
      rw [if_pos hmf]
  have hyes : Hid (0 ≤ k.primary → mj = true → ∃ (pj : Nat) (p : Sm), k.primary = (pj : Int) ∧ pj < k.n ∧ k.servers[pj]? = some p ∧ ∀ nl U R, nl = p.log.map Em.val ++ [(⟨k.view, d⟩ : En)] → U = (k.servers.map Sm.val).set pj ⟨p.up, p.view, nl⟩ → R = updS k.view nl reach (pj : Int) U 0 1 → submitC k.val d reach = if 8198 < d.length ∨ 4096 ≤ (p.log.map Em.val).length then (k.val, 0, 3) else
      if majN k.n R.2.toNat = true then ((⟨(pj : Int), k.view, nl.length, R.1⟩ : Cv), ((p.log.map Em.val).length : Int), (0 : Int)) else (⟨-1, k.view, k.commit, R.1.set pj ⟨false, p.view, nl⟩⟩, 0, 18)) := by
    intro hh hb2
    obtain ⟨pj, hpj⟩ : ∃ pj : Nat, k.primary = (pj : Int) := ⟨k.primary.toNat, by omega⟩
    have hpn : pj < k.n := by omega
    have hpl : pj < k.servers.length := by rw [hl.out]; exact hpn
    refine ⟨pj, k.servers[pj], hpj, hpn, List.getElem?_eq_getElem hpl, ?_⟩
    rintro _ _ _ rfl rfl rfl
    have hpv : k.val.primary = (pj : Int) := hpj
    unfold submitC
    rw [primOf_at k pj _ hpj (List.getElem?_eq_getElem hpl)]
    simp only
    rw [if_neg (by rw [e, show countUp k.val.servers = countUp (k.servers.map Sm.val) from rfl, ← hmj0, hb2]; decide), e, hpv, Int.toNat_natCast]
    rfl
  have hmj : Hid (∀ wz, Below w.heap.size w wz → Calls Try.prog 56 #[clV k] wz fun e w' => e = .returned (.bool mj) ∧ Below wz.heap.size wz w') := fun wz hz => by rw [hmj0]; exact rmajority_any k wz (h.more hz) hn7
  clear hmj0 h e
  replace hr := Lib.hid hr
  replace hsm := Lib.hid hsm
  replace hda := Lib.hid hda
  obtain ⟨primary, view, commit, A, n, c, sl⟩ := k
  simp only [clV] at *
  obtain ⟨i59, hi59, hz590, hz591, hz592⟩ := info_parts en_info
  obtain ⟨i5, hi5, hz50, hz51, hz52⟩ := info_parts byte_info
  replace hi59 := Lib.hid hi59
  replace hz590 := Lib.hid hz590
  replace hz591 := Lib.hid hz591
  replace hz592 := Lib.hid hz592
  replace hi5 := Lib.hid hi5
  replace hz50 := Lib.hid hz50
  replace hz51 := Lib.hid hz51
  replace hz52 := Lib.hid hz52
  have hx0 := Lib.hid ((Blk.new w 24 #[Value.int .i64 primary, Value.int .i64 view, Value.int .i64 commit, Value.slice A n c]).alloc (.cells #[Value.int .i64 0, Value.int .i64 0, Value.int .i64 0, Value.slice none 0 0] 24))
  have hz0 := Blk.new (w.alloc (.cells #[Value.int .i64 primary, Value.int .i64 view, Value.int .i64 commit, Value.slice A n c] 24)) 24 #[Value.int .i64 0, Value.int .i64 0, Value.int .i64 0, Value.slice none 0 0]
  rw [show (w.alloc (.cells #[Value.int .i64 primary, Value.int .i64 view, Value.int .i64 commit, Value.slice A n c] 24)).heap.size = w.heap.size + 1 by simp] at hz0
  replace hz0 := Lib.hid hz0
  have hb0 : Hid (Below w.heap.size w ((w.alloc (.cells #[Value.int .i64 primary, Value.int .i64 view, Value.int .i64 commit, Value.slice A n c] 24)).alloc (.cells #[Value.int .i64 0, Value.int .i64 0, Value.int .i64 0, Value.slice none 0 0] 24))) := (a1 w _).alloc (by simp) _
  by_cases q1 : primary < 0
  · have q1d : decide (primary < 0) = true := by simpa using q1
    have hF : Hid (r = (⟨primary, view, commit, sl.map Sm.val⟩, 0, 24)) := by show _ = _; rw [hr.out]; exact hno.out (.inl q1)
    obtain ⟨k0, k1, k2, k3⟩ := cells4 (((w.alloc (.cells #[Value.int .i64 primary, Value.int .i64 view, Value.int .i64 commit, Value.slice A n c] 24)).alloc (.cells #[Value.int .i64 0, Value.int .i64 0, Value.int .i64 0, Value.slice none 0 0] 24))) (w.heap.size) (Value.int .i64 primary) (Value.int .i64 view) (Value.int .i64 commit) (Value.slice A n c) (hx0.out)
    obtain ⟨u0, u1, u2, u3, y0, y1, y2, y3⟩ := cells4z (((w.alloc (.cells #[Value.int .i64 primary, Value.int .i64 view, Value.int .i64 commit, Value.slice A n c] 24)).alloc (.cells #[Value.int .i64 0, Value.int .i64 0, Value.int .i64 0, Value.slice none 0 0] 24))) ((w.heap.size + 1)) (Value.int .i64 0) (Value.int .i64 0) (Value.int .i64 0) (Value.slice none 0 0) (hz0.out)
    go_enter Try.func31, Try.ntmps31
    go_wp2_with fail
    clear k0 k1 k2 k3 u0 u1 u2 u3 y0 y1 y2 y3
    have hB := Blk.new (w.alloc (.cells #[Value.int .i64 primary, Value.int .i64 view, Value.int .i64 commit, Value.slice A n c] 24)) 24 #[Value.int .i64 primary, Value.int .i64 view, Value.int .i64 commit, Value.slice A n c]
    rw [show (w.alloc (.cells #[Value.int .i64 primary, Value.int .i64 view, Value.int .i64 commit, Value.slice A n c] 24)).heap.size = w.heap.size + 1 by simp] at hB
    have hbF : Below w.heap.size w ((w.alloc (.cells #[Value.int .i64 primary, Value.int .i64 view, Value.int .i64 commit, Value.slice A n c] 24)).alloc (.cells #[Value.int .i64 primary, Value.int .i64 view, Value.int .i64 commit, Value.slice A n c] 24)) := (a1 w _).alloc (by simp) _
    (try simp only [Exit.inBlock, Exit.then])
    refine bodyPost_ret (v := .tuple #[.agg #[Value.int .i64 primary, Value.int .i64 view, Value.int .i64 commit, Value.slice A n c], Value.int .i64 0, Value.int .i64 24]) ?_ rfl ?_
    · refine (res3 (fn := Try.f31) (p := 6) (u := 7) (v := 8) (ty := 24) rfl _ _ (w.heap.size + 1) 24 _ (0, 0) _ ?_ hB Try.underlying24 rfl (by kernel_rfl)).trans ?_
      · rfl
      · rfl
    clear hB
    exact ⟨⟨(⟨primary, view, commit, A, n, c, sl⟩ : Cm), by rw [hF.out]; rfl, (hcm.out.more hbF).imp (fun b hb => Or.inl hb.1), by rw [hF.out]; rfl⟩, hbF⟩
  have q1d : decide (primary < 0) = false := by simpa using q1
  obtain ⟨k0, k1, k2, k3⟩ := cells4 (((w.alloc (.cells #[Value.int .i64 primary, Value.int .i64 view, Value.int .i64 commit, Value.slice A n c] 24)).alloc (.cells #[Value.int .i64 0, Value.int .i64 0, Value.int .i64 0, Value.slice none 0 0] 24))) (w.heap.size) (Value.int .i64 primary) (Value.int .i64 view) (Value.int .i64 commit) (Value.slice A n c) (hx0.out)
  go_enter Try.func31, Try.ntmps31
  go_wp2_with fail
  refine (hmj.out _ hb0.out).mono ?_; rintro e w1 ⟨rfl, hq⟩
  have hX1 := Lib.hid (hx0.out.below hq hx0.out.lt)
  have hZ1 := Lib.hid (hz0.out.below hq hz0.out.lt)
  have hb1 := Lib.hid (hb0.out.trans (hq.mono hb0.out.size))
  clear hq hx0 hz0 hb0 k0 k1 k2 k3
  cases mj with
  | false =>
    have hF : Hid (r = (⟨primary, view, commit, sl.map Sm.val⟩, 0, 24)) := by show _ = _; rw [hr.out]; exact hno.out (.inr rfl)
    obtain ⟨k0, k1, k2, k3⟩ := cells4 (w1) (w.heap.size) (Value.int .i64 primary) (Value.int .i64 view) (Value.int .i64 commit) (Value.slice A n c) (hX1.out)
    obtain ⟨u0, u1, u2, u3, y0, y1, y2, y3⟩ := cells4z (w1) ((w.heap.size + 1)) (Value.int .i64 0) (Value.int .i64 0) (Value.int .i64 0) (Value.slice none 0 0) (hZ1.out)
    go_wp2_with fail
    (try simp only [Exit.inBlock, Exit.then])
    have hBF := cl_set4 hZ1.out (Value.int .i64 primary) (Value.int .i64 view) (Value.int .i64 commit) (Value.slice A n c)
    have hbF := below_set4 hb1.out (Nat.le_succ _) (Value.int .i64 primary) (Value.int .i64 view) (Value.int .i64 commit) (Value.slice A n c)
    have hgF := grown_set4 (w1) (w.heap.size + 1) (Value.int .i64 primary) (Value.int .i64 view) (Value.int .i64 commit) (Value.slice A n c)
    refine bodyPost_ret (v := .tuple #[.agg #[Value.int .i64 primary, Value.int .i64 view, Value.int .i64 commit, Value.slice A n c], .int .i64 0, .int .i64 24]) ?_ rfl ?_
    · refine (res3 (fn := Try.f31) (p := 6) (u := 7) (v := 8) (ty := 24) rfl _ _ (w.heap.size + 1) 24 _ (0, 0) _ ?_ hBF Try.underlying24 rfl (by kernel_rfl)).trans ?_
      · rfl
      · rfl
    clear hBF
    generalize ((((w1.setCell ⟨(w.heap.size + 1), 0, none⟩ (Value.int .i64 primary)).setCell ⟨(w.heap.size + 1), 1, none⟩ (Value.int .i64 view)).setCell ⟨(w.heap.size + 1), 2, none⟩ (Value.int .i64 commit)).setCell ⟨(w.heap.size + 1), 3, none⟩ (Value.slice A n c)) = wF at *
    exact ⟨⟨⟨primary, view, commit, A, n, c, sl⟩, by rw [hF.out]; rfl, ((hcm.out.more hb1.out).st hgF (fun b hb e => by injection e with e; have := hb.2; omega)).imp (fun b hb => Or.inl hb.1), by rw [hF.out]; rfl⟩, hbF⟩
  | true =>
  obtain ⟨pj, p, hpj, hpn, hpx0, hsub0⟩ := hyes.out (by omega) rfl
  have hpx := Lib.hid hpx0
  have hsub := Lib.hid hsub0
  clear hno hyes hpx0 hsub0
  subst hpj
  clear q1 q1d
  have hpl : pj < sl.length := by have := hl.out; (try simp only at this); omega
  have hps := Lib.hid (hcm.out.els p (List.mem_of_getElem? hpx.out))
  have hpm := Lib.hid (hsm.out p (List.mem_of_getElem? hpx.out))
  have hpxe : sl[pj] = p := (List.getElem?_eq_some_iff.1 hpx.out).2
  obtain ⟨ad, hA, -, -, -, e2⟩ := sv_cells (hcm.out.at_.below hb1.out (Nat.le_refl _)) hpn
  (try simp only at hA)
  subst hA
  (try simp only at e2)
  rw [hpxe] at e2
  clear hpxe
  have hp0 : (0 : Int) ≤ pj := by omega
  have hpn1 : (pj : Int) < n := by omega
  obtain ⟨pu, pv, pA, pn, pc, pl⟩ := p
  (try simp only at hpm hsub e2)
  have hpnl : Hid (pl.length = pn) := hps.out.len
  obtain ⟨k0, k1, k2, k3⟩ := cells4 (w1) (w.heap.size) (Value.int .i64 (pj : Int)) (Value.int .i64 view) (Value.int .i64 commit) (Value.slice (some ad) n c) (hX1.out)
  go_wp2_with fail
  refine (copied_any pA pn pc pl w1 (LogAt.more hps.out hb1.out) hpm.out.1 (Nat.le_trans hpm.out.2 (by decide))).mono ?_; rintro e wq ⟨⟨v9, L, rfl, hLR, hLv⟩, hq⟩
  clear k0 k1 k2 k3 e2
  have hLn0 : L.length = pn := by
    have := congrArg List.length hLv
    rw [List.length_map, List.length_map, hpnl.out] at this
    exact this
  obtain ⟨lA0, lc0, rfl⟩ := hLR.form
  rw [hLn0] at hLR ⊢
  have hLn := Lib.hid hLn0
  have hw12 := hZ1.out.lt
  have hX2 := Lib.hid (hX1.out.below hq hX1.out.lt)
  have hZ2 := Lib.hid (hZ1.out.below hq hZ1.out.lt)
  have hb2 := Lib.hid (hb1.out.trans (hq.mono hb1.out.size))
  have hLR2 := Lib.hid (hLR.mono (b2 := (w.heap.size + 2)) (by omega))
  have hbase0 : (w.heap.size + 2) ≤ wq.heap.size := by have := hq.size; omega
  have hbase1 := Nat.le_refl (w.heap.size + 2)
  replace hLv := Lib.hid hLv
  clear hq hLR hX1 hZ1 hb1 hw12
  by_cases r1 : 8198 < d.length
  · have r1d : decide ((8198 : Int) < (d.length : Int)) = true := by simp; omega
    have r1i : (8198 : Int) < (d.length : Int) := by omega
    have hF : Hid (r = (⟨(pj : Int), view, commit, sl.map Sm.val⟩, 0, 3)) := by show _ = _; rw [hr.out, hsub.out _ _ _ rfl rfl rfl, if_pos (.inl r1)]; rfl
    obtain ⟨k0, k1, k2, k3⟩ := cells4 (wq) (w.heap.size) (Value.int .i64 (pj : Int)) (Value.int .i64 view) (Value.int .i64 commit) (Value.slice (some ad) n c) (hX2.out)
    obtain ⟨u0, u1, u2, u3, y0, y1, y2, y3⟩ := cells4z (wq) ((w.heap.size + 1)) (Value.int .i64 0) (Value.int .i64 0) (Value.int .i64 0) (Value.slice none 0 0) (hZ2.out)
    go_wp2_with fail
    (try simp only [Exit.inBlock, Exit.then])
    have hBF := cl_set4 hZ2.out (Value.int .i64 (pj : Int)) (Value.int .i64 view) (Value.int .i64 commit) (Value.slice (some ad) n c)
    have hbF := below_set4 hb2.out (Nat.le_succ _) (Value.int .i64 (pj : Int)) (Value.int .i64 view) (Value.int .i64 commit) (Value.slice (some ad) n c)
    have hgF := grown_set4 (wq) (w.heap.size + 1) (Value.int .i64 (pj : Int)) (Value.int .i64 view) (Value.int .i64 commit) (Value.slice (some ad) n c)
    refine bodyPost_ret (v := .tuple #[.agg #[Value.int .i64 (pj : Int), Value.int .i64 view, Value.int .i64 commit, Value.slice (some ad) n c], .int .i64 0, .int .i64 3]) ?_ rfl ?_
    · refine (res3 (fn := Try.f31) (p := 6) (u := 7) (v := 8) (ty := 24) rfl _ _ (w.heap.size + 1) 24 _ (0, 0) _ ?_ hBF Try.underlying24 rfl (by kernel_rfl)).trans ?_
      · rfl
      · rfl
    clear hBF
    generalize ((((wq.setCell ⟨(w.heap.size + 1), 0, none⟩ (Value.int .i64 (pj : Int))).setCell ⟨(w.heap.size + 1), 1, none⟩ (Value.int .i64 view)).setCell ⟨(w.heap.size + 1), 2, none⟩ (Value.int .i64 commit)).setCell ⟨(w.heap.size + 1), 3, none⟩ (Value.slice (some ad) n c)) = wF at *
    exact ⟨⟨⟨(pj : Int), view, commit, (some ad), n, c, sl⟩, by rw [hF.out]; rfl, ((hcm.out.more hb2.out).st hgF (fun b hb e => by injection e with e; have := hb.2; omega)).imp (fun b hb => Or.inl hb.1), by rw [hF.out]; rfl⟩, hbF⟩
  have r1d : decide ((8198 : Int) < (d.length : Int)) = false := by simp; omega
  have r1i : ¬ (8198 : Int) < (d.length : Int) := by omega
  by_cases r2 : 4096 ≤ pn
  · have r2d : decide ((4096 : Int) ≤ (pn : Int)) = true := by simp; omega
    have r2i : (4096 : Int) ≤ (pn : Int) := by omega
    have hF : Hid (r = (⟨(pj : Int), view, commit, sl.map Sm.val⟩, 0, 3)) := by show _ = _; rw [hr.out, hsub.out _ _ _ rfl rfl rfl, if_pos (.inr (by rw [List.length_map, hpnl.out]; exact r2))]; rfl
    obtain ⟨k0, k1, k2, k3⟩ := cells4 (wq) (w.heap.size) (Value.int .i64 (pj : Int)) (Value.int .i64 view) (Value.int .i64 commit) (Value.slice (some ad) n c) (hX2.out)
    obtain ⟨u0, u1, u2, u3, y0, y1, y2, y3⟩ := cells4z (wq) ((w.heap.size + 1)) (Value.int .i64 0) (Value.int .i64 0) (Value.int .i64 0) (Value.slice none 0 0) (hZ2.out)
    go_wp2_with fail
    (try simp only [Exit.inBlock, Exit.then])
    have hBF := cl_set4 hZ2.out (Value.int .i64 (pj : Int)) (Value.int .i64 view) (Value.int .i64 commit) (Value.slice (some ad) n c)
    have hbF := below_set4 hb2.out (Nat.le_succ _) (Value.int .i64 (pj : Int)) (Value.int .i64 view) (Value.int .i64 commit) (Value.slice (some ad) n c)
    have hgF := grown_set4 (wq) (w.heap.size + 1) (Value.int .i64 (pj : Int)) (Value.int .i64 view) (Value.int .i64 commit) (Value.slice (some ad) n c)
    refine bodyPost_ret (v := .tuple #[.agg #[Value.int .i64 (pj : Int), Value.int .i64 view, Value.int .i64 commit, Value.slice (some ad) n c], .int .i64 0, .int .i64 3]) ?_ rfl ?_
    · refine (res3 (fn := Try.f31) (p := 6) (u := 7) (v := 8) (ty := 24) rfl _ _ (w.heap.size + 1) 24 _ (0, 0) _ ?_ hBF Try.underlying24 rfl (by kernel_rfl)).trans ?_
      · rfl
      · rfl
    clear hBF
    generalize ((((wq.setCell ⟨(w.heap.size + 1), 0, none⟩ (Value.int .i64 (pj : Int))).setCell ⟨(w.heap.size + 1), 1, none⟩ (Value.int .i64 view)).setCell ⟨(w.heap.size + 1), 2, none⟩ (Value.int .i64 commit)).setCell ⟨(w.heap.size + 1), 3, none⟩ (Value.slice (some ad) n c)) = wF at *
    exact ⟨⟨⟨(pj : Int), view, commit, (some ad), n, c, sl⟩, by rw [hF.out]; rfl, ((hcm.out.more hb2.out).st hgF (fun b hb e => by injection e with e; have := hb.2; omega)).imp (fun b hb => Or.inl hb.1), by rw [hF.out]; rfl⟩, hbF⟩
  have r2d : decide ((4096 : Int) ≤ (pn : Int)) = false := by simp; omega
  have r2i : ¬ (4096 : Int) ≤ (pn : Int) := by omega
  have hcell : Hid (∀ wz, Below (w.heap.size + 2) wq wz → wz.cell? ⟨w.heap.size, 1, none⟩ = some (Value.int .i64 view)) := fun wz hz => (hX2.out.below hz (by omega)).cell 1
  have hdat : Hid (∀ wz, Below (w.heap.size + 2) wq wz → BAt wz wz.heap.size dA d.length d) := fun wz hz => hda.out.more (hb2.out.trans (hz.mono (by omega)))
  go_wp2_with fail
  refine RUZ.region [((47), (46))] [] 9 (F := F31a w.heap.size dc (w.heap.size + 2) (.slice lA0 pn lc0) dA view d L) (W := fun wz => Below (w.heap.size + 2) wq wz ∧ LogR (w.heap.size + 2) L (.slice lA0 pn lc0) wz) (R := RF31a) rfl F31a_more (by kernel_rfl) (by kernel_rfl) (by kernel_rfl) (by kernel_rfl) (by kernel_rfl) (by kernel_rfl) ?_ ?_ ?_ ?_
  · exact ⟨(Below.refl _ _).drew, hLR2.out.more (Below.refl _ _).drew⟩
  · intro t ht
    unfold F31a
    split <;> first | trivial | exact rfl | (exact absurd ht (by decide))
  · intro i o hi ho
    have hcs : i = 0 ∨ i = 1 ∨ i = 2 ∨ i = 3 ∨ i = 4 ∨ i = 5 ∨ i = 6 ∨ i = 7 ∨ i = 8 := by omega
    rcases hcs with rfl | rfl | rfl | rfl | rfl | rfl | rfl | rfl | rfl <;> (injection ho with ho; subst ho)
    · intro a w2 hw _ hf K hK
      have f0 := hf 9 rfl
      simp only [F31a] at f0
      clear hf
      go_simp
      exact hK _ _ _ rfl rfl hw (Below.refl _ _) (fun h => absurd h (by decide))
    · intro a w2 hw _ hf K hK
      have f0 := hf 3 rfl
      simp only [F31a] at f0
      clear hf
      go_simp
      exact hK _ _ _ rfl rfl hw (Below.refl _ _) (fun h => absurd h (by decide))
    · intro a w2 hw _ hf K hK
      have f0 := hf 40 rfl
      simp only [F31a] at f0
      clear hf
      have q0 := hcell.out w2 hw.1
      go_simp
      exact hK _ _ _ rfl rfl hw (Below.refl _ _) (fun h => absurd h (by decide))
    · intro a w2 hw _ hf K hK
      clear hf
      go_simp
      exact hK _ _ _ rfl ⟨w2.heap.size, rfl, (Nat.le_trans hbase0 hw.1.size), Blk.new w2 5 #[]⟩ ⟨hw.1.trans ((a1 w2 _).mono (Nat.le_trans hbase0 hw.1.size)), hw.2.more (a1 w2 _)⟩ (a1 w2 _) (fun h => absurd h (by decide))
    · intro a w2 hw _ hf K hK
      have f0 := hf 1 rfl
      simp only [F31a] at f0
      clear hf
      go_simp
      exact hK _ _ _ rfl rfl hw (Below.refl _ _) (fun h => absurd h (by decide))
    · intro a w2 hw _ hf K hK
      have f0 := hf 42 rfl
      have f1 := hf 43 rfl
      simp only [F31a] at f0 f1
      clear hf
      obtain ⟨g5, e5, hbg, hbk⟩ := f0
      refine wp_append_kept w2 (.tmp 42) (.tmp 43) 25 rfl (w.heap.size + 2) 5 i5 _ 1 1 Try.underlying25 hi5.out hz50.out hz51.out hz52.out rfl (by omega) (.slice (some ⟨g5, 0, none⟩) 0 0) 0 [] ((eval_tmp a 42).trans e5) ⟨rfl, .inr ⟨g5, 0, #[], rfl, hbg, hbk, Nat.le_refl _, Nat.zero_le _, rfl, rfl⟩⟩ w2.heap.size dA d.length dc (flat bC d) ((eval_tmp a 43).trans f1) (hdat.out w2 hw.1).2 (bC_one _) (by simp only [maxLen]; omega) (by omega) (Nat.le_trans hbase0 hw.1.size) ?_
      intro v' w' hown hg hkp
      have hbl : Below w2.heap.size w2 w' := by
        rcases hkp with h | ⟨g', cap', e, hc, h0⟩
        · exact h
        · injection e with _ _ ec; omega
      rw [Nat.zero_add, List.nil_append] at hown
      exact hK _ _ _ rfl ⟨bC_len, hown⟩ ⟨hw.1.trans ((hbl).mono (Nat.le_trans hbase0 hw.1.size)), hw.2.more (hbl)⟩ hbl (fun h => absurd h (by decide))
    · intro a w2 hw _ hf K hK
      have f0 := hf 41 rfl
      have f1 := hf 44 rfl
      simp only [F31a] at f0 f1
      clear hf
      obtain ⟨A6, c6, e6, -, -, -, -⟩ := f1.form
      have f1 := Lib.hid f1
      have e7 := e6
      rw [e6] at f1
      go_simp
      exact hK _ _ _ rfl ⟨A6, c6, rfl, f1.out⟩ hw (Below.refl _ _) (fun h => absurd h (by decide))
    · intro a w2 hw _ hf K hK
      have f0 := hf 45 rfl
      simp only [F31a] at f0
      clear hf
      obtain ⟨A6, c6, e6, f0⟩ := f0
      have f0 := Lib.hid f0
      go_simp
      exact hK _ _ _ rfl ⟨w2.heap.size, A6, c6, rfl, (Nat.le_trans hbase0 hw.1.size), Blk.new w2 59 _, f0.out.alloc _⟩ ⟨hw.1.trans ((a1 w2 _).mono (Nat.le_trans hbase0 hw.1.size)), hw.2.more (a1 w2 _)⟩ (a1 w2 _) (fun h => absurd h (by decide))
    · intro a w2 hw _ hf K hK
      have f0 := hf 39 rfl
      have f1 := hf 46 rfl
      simp only [F31a] at f0 f1
      clear hf
      obtain ⟨g6, A6, c6, e6, h61, h62, h63⟩ := f1
      refine wp_append_old w2 (.tmp 39) (.tmp 46) 45 rfl (w.heap.size + 2) 59 i59 _ 2 32 Try.underlying45 hi59.out hz590.out hz591.out hz592.out rfl (by omega) (.slice lA0 pn lc0) L.length (flat enC L) ((eval_tmp a 39).trans f0) hw.2.1.2 w2.heap.size (some ⟨g6, 0, none⟩) 1 1 (flat enC [(⟨view, A6, d.length, c6, d⟩ : Em)]) ((eval_tmp a 46).trans e6) (lat_blk enC_len h62 [(⟨view, A6, d.length, c6, d⟩ : Em)] 1 rfl (by simp [flat, enC])).2 (enC_one _) (by simp only [maxLen]; omega) (by omega) (Nat.le_trans hbase0 hw.1.size) ?_
      intro v' w' hown hg hold
      have hdl : ∀ e ∈ L, BOwn w' (w.heap.size + 2) (.slice e.A e.n e.c) e.d := fun e he => (hw.2.2 e he).grownT hw.2.1 (by decide) hg
      refine hK _ _ _ rfl ⟨(⟨view, A6, d.length, c6, d⟩ : Em), rfl, ⟨enC_len, by rw [List.length_append, flat_append]; exact hown⟩, fun e he => ?_⟩ ⟨hw.1.grown hg (Nat.le_trans hbase0 hw.1.size) (fun k hk => Nat.le_trans hbase1 (World.ownsRow.lt hw.2.1.2 _ hk).1), ⟨enC_len, hold⟩, hdl⟩ ?_ (fun h => absurd h (by decide))
      · rcases List.mem_append.1 he with he | he
        · exact hdl e he
        · simp at he
          subst he
          exact h63.grownT hw.2.1 (by decide) hg
      · show RF31a 47 w2 w'
        unfold RF31a
        rw [if_pos rfl]
        exact Or.inl ⟨_, _, _, hw.2.1, hg⟩
  · intro a' w9 hd hs hw hout hf
    have h47 := hf 8 47 (by decide) rfl rfl
    simp only [F31a] at h47
    have e0 := hout 0 rfl
    have e1 := hout 1 rfl
    have e2 := hout 2 rfl
    have e3 := hout 3 rfl
    have e4 := hout 4 rfl
    have e5 := hout 5 rfl
    have e6 := hout 6 rfl
    have e7 := hout 7 rfl
    have e8 := hout 8 rfl
    have e9 := hout 9 rfl
    have e10 := hout 10 rfl
    have e11 := hout 11 rfl
    have e12 := hout 12 rfl
    have e13 := hout 13 rfl
    have e14 := hout 14 rfl
    have e15 := hout 15 rfl
    have e16 := hout 16 rfl
    have e17 := hout 17 rfl
    have e18 := hout 18 rfl
    have e19 := hout 19 rfl
    have e20 := hout 20 rfl
    have e21 := hout 21 rfl
    have e22 := hout 22 rfl
    have e23 := hout 23 rfl
    have e24 := hout 24 rfl
    have e25 := hout 25 rfl
    have e26 := hout 26 rfl
    have e27 := hout 27 rfl
    have e28 := hout 28 rfl
    have e29 := hout 29 rfl
    have e30 := hout 30 rfl
    have e31 := hout 31 rfl
    have e32 := hout 32 rfl
    have e33 := hout 33 rfl
    have e34 := hout 34 rfl
    have e35 := hout 35 rfl
    have e36 := hout 36 rfl
    have e37 := hout 37 rfl
    have e38 := hout 38 rfl
    have e48 := hout 48 rfl
    have e49 := hout 49 rfl
    have e50 := hout 50 rfl
    have e51 := hout 51 rfl
    have e52 := hout 52 rfl
    have e53 := hout 53 rfl
    have e54 := hout 54 rfl
    have e55 := hout 55 rfl
    have e56 := hout 56 rfl
    have e57 := hout 57 rfl
    have e58 := hout 58 rfl
    have e59 := hout 59 rfl
    have e60 := hout 60 rfl
    have e61 := hout 61 rfl
    have e62 := hout 62 rfl
    have e63 := hout 63 rfl
    have e64 := hout 64 rfl
    have e65 := hout 65 rfl
    have e66 := hout 66 rfl
    have e67 := hout 67 rfl
    have e68 := hout 68 rfl
    have e69 := hout 69 rfl
    have e70 := hout 70 rfl
    have e71 := hout 71 rfl
    have e72 := hout 72 rfl
    have e73 := hout 73 rfl
    have e74 := hout 74 rfl
    have e75 := hout 75 rfl
    have e76 := hout 76 rfl
    have e77 := hout 77 rfl
    have e78 := hout 78 rfl
    have e79 := hout 79 rfl
    have e80 := hout 80 rfl
    have e81 := hout 81 rfl
    have e82 := hout 82 rfl
    have e83 := hout 83 rfl
    have e84 := hout 84 rfl
    have e85 := hout 85 rfl
    have e86 := hout 86 rfl
    have e87 := hout 87 rfl
    have e88 := hout 88 rfl
    have e89 := hout 89 rfl
    have e90 := hout 90 rfl
    have e91 := hout 91 rfl
    have e92 := hout 92 rfl
    have e93 := hout 93 rfl
    have e94 := hout 94 rfl
    have e95 := hout 95 rfl
    have e96 := hout 96 rfl
    have e97 := hout 97 rfl
    have e98 := hout 98 rfl
    have e99 := hout 99 rfl
    have e100 := hout 100 rfl
    have e101 := hout 101 rfl
    have e102 := hout 102 rfl
    have e103 := hout 103 rfl
    have e104 := hout 104 rfl
    have e105 := hout 105 rfl
    have e106 := hout 106 rfl
    have e107 := hout 107 rfl
    have e108 := hout 108 rfl
    have e109 := hout 109 rfl
    have e110 := hout 110 rfl
    have e111 := hout 111 rfl
    have e112 := hout 112 rfl
    have e113 := hout 113 rfl
    have e114 := hout 114 rfl
    have e115 := hout 115 rfl
    have e116 := hout 116 rfl
    simp only [List.getElem?_toArray, List.getElem?_cons_succ, List.getElem?_cons_zero] at e0 e1 e2 e3 e4 e5 e6 e7 e8 e9 e10 e11 e12 e13 e14 e15 e16 e17 e18 e19 e20 e21 e22 e23 e24 e25 e26 e27 e28 e29 e30 e31 e32 e33 e34 e35 e36 e37 e38 e48 e49 e50 e51 e52 e53 e54 e55 e56 e57 e58 e59 e60 e61 e62 e63 e64 e65 e66 e67 e68 e69 e70 e71 e72 e73 e74 e75 e76 e77 e78 e79 e80 e81 e82 e83 e84 e85 e86 e87 e88 e89 e90 e91 e92 e93 e94 e95 e96 e97 e98 e99 e100 e101 e102 e103 e104 e105 e106 e107 e108 e109 e110 e111 e112 e113 e114 e115 e116
    obtain ⟨tm, df⟩ := a'
    simp only at hd hs h47 e0 e1 e2 e3 e4 e5 e6 e7 e8 e9 e10 e11 e12 e13 e14 e15 e16 e17 e18 e19 e20 e21 e22 e23 e24 e25 e26 e27 e28 e29 e30 e31 e32 e33 e34 e35 e36 e37 e38 e48 e49 e50 e51 e52 e53 e54 e55 e56 e57 e58 e59 e60 e61 e62 e63 e64 e65 e66 e67 e68 e69 e70 e71 e72 e73 e74 e75 e76 e77 e78 e79 e80 e81 e82 e83 e84 e85 e86 e87 e88 e89 e90 e91 e92 e93 e94 e95 e96 e97 e98 e99 e100 e101 e102 e103 e104 e105 e106 e107 e108 e109 e110 e111 e112 e113 e114 e115 e116
    have e := F31a_lit tm hs
    simp only [e0, e1, e2, e3, e4, e5, e6, e7, e8, e9, e10, e11, e12, e13, e14, e15, e16, e17, e18, e19, e20, e21, e22, e23, e24, e25, e26, e27, e28, e29, e30, e31, e32, e33, e34, e35, e36, e37, e38, e48, e49, e50, e51, e52, e53, e54, e55, e56, e57, e58, e59, e60, e61, e62, e63, e64, e65, e66, e67, e68, e69, e70, e71, e72, e73, e74, e75, e76, e77, e78, e79, e80, e81, e82, e83, e84, e85, e86, e87, e88, e89, e90, e91, e92, e93, e94, e95, e96, e97, e98, e99, e100, e101, e102, e103, e104, e105, e106, e107, e108, e109, e110, e111, e112, e113, e114, e115, e116, Option.getD_some] at e
    clear hf hout hs
    rw [e, hd]
    clear e hd e0 e1 e2 e3 e4 e5 e6 e7 e8 e9 e10 e11 e12 e13 e14 e15 e16 e17 e18 e19 e20 e21 e22 e23 e24 e25 e26 e27 e28 e29 e30 e31 e32 e33 e34 e35 e36 e37 e38 e48 e49 e50 e51 e52 e53 e54 e55 e56 e57 e58 e59 e60 e61 e62 e63 e64 e65 e66 e67 e68 e69 e70 e71 e72 e73 e74 e75 e76 e77 e78 e79 e80 e81 e82 e83 e84 e85 e86 e87 e88 e89 e90 e91 e92 e93 e94 e95 e96 e97 e98 e99 e100 e101 e102 e103 e104 e105 e106 e107 e108 e109 e110 e111 e112 e113 e114 e115 e116
    generalize tm[47]?.getD undef = u47x at h47 ⊢
    generalize tm[39]?.getD undef = u39x, tm[40]?.getD undef = u40x, tm[41]?.getD undef = u41x, tm[42]?.getD undef = u42x, tm[43]?.getD undef = u43x, tm[44]?.getD undef = u44x, tm[45]?.getD undef = u45x, tm[46]?.getD undef = u46x
    obtain ⟨e8, he8, hLR0⟩ := h47
    obtain ⟨L8, hL8e⟩ : ∃ L8, L8 = L ++ [e8] := ⟨_, rfl⟩
    rw [← hL8e] at hLR0
    obtain ⟨lA, lc, hv47⟩ := hLR0.form
    have hL8n0 : L8.length = pn + 1 := by rw [hL8e, List.length_append, hLn.out]; rfl
    obtain ⟨nl, hnl⟩ : ∃ nl, nl = pl.map Em.val ++ [(⟨view, d⟩ : En)] := ⟨_, rfl⟩
    have hL8 : Hid (L8.map Em.val = nl) := by show _ = _; rw [hL8e, List.map_append, hLv.out, hnl]; show _ ++ [e8.val] = _; rw [he8]
    have hnll0 : nl.length = pn + 1 := by rw [hnl, List.length_append, List.length_map, hpnl.out]; rfl
    have hlnb0 : sumD L8 ≤ 1000000 := by
      rw [← sumD_val0, hL8.out, hnl]
      have h1 := hpm.out.2
      rw [← sumD_val0] at h1
      simp only [List.map_append, List.sum_append, List.map_cons, List.map_nil, List.sum_cons, List.sum_nil]
      omega
    obtain ⟨ln, hlne⟩ : ∃ ln, ln = pn + 1 := ⟨_, rfl⟩
    rw [← hlne] at hL8n0 hnll0
    rw [hL8n0] at hv47
    subst hv47
    have hL8n : Hid (L8.length = ln) := hL8n0
    have hnll : Hid (nl.length = ln) := hnll0
    have hlnb : Hid (ln ≤ 5000 ∧ sumD L8 ≤ 1000000) := ⟨by omega, hlnb0⟩
    have hln1 : IntKind.i64.wrap ((ln : Int) - 1) = (pn : Int) := by rw [IntWalk.i64_in _ (by omega)]; omega
    clear hL8n0 hnll0 hlnb0 he8 hL8e
    replace hlne := Lib.hid hlne
    have hwq9 : wq.heap.size ≤ w9.heap.size := hw.1.size
    have hX9 := Lib.hid (hX2.out.below hw.1 (by omega))
    have hZ9 := Lib.hid (hZ2.out.below hw.1 (by omega))
    have hb9 : Hid (Below w.heap.size w w9) := hb2.out.trans (hw.1.mono (by omega))
    have hLR9 := Lib.hid hLR0
    clear hw hcell hdat hLR0
    obtain ⟨k0, k1, k2, k3⟩ := cells4 (w9) (w.heap.size) (Value.int .i64 (pj : Int)) (Value.int .i64 view) (Value.int .i64 commit) (Value.slice (some ad) n c) (hX9.out)
    go_wp2_with fail
    refine (own_any (⟨(pj : Int), view, commit, some ad, n, c, sl⟩ : Cm) w9 (hcm.out.more hb9.out) hs1.out).mono ?_; rintro e w4 ⟨⟨g, cap, sl4, rfl, hrow4, hE4, hv4⟩, hq⟩
    clear k0 k1 k2 k3
    obtain ⟨g9, hg9⟩ : ∃ g9, g9 = w4.heap.size := ⟨_, rfl⟩
    have hX4 := Lib.hid ((hX9.out.below hq hX9.out.lt).alloc (.cells #[Value.int .i64 (pj : Int), Value.int .i64 view, Value.int .i64 commit, Value.slice (some ⟨g, 0, none⟩) n cap] 24))
    have hZ4 := Lib.hid ((hZ9.out.below hq hZ9.out.lt).alloc (.cells #[Value.int .i64 (pj : Int), Value.int .i64 view, Value.int .i64 commit, Value.slice (some ⟨g, 0, none⟩) n cap] 24))
    have hN4 := Lib.hid (Blk.new w4 24 #[Value.int .i64 (pj : Int), Value.int .i64 view, Value.int .i64 commit, Value.slice (some ⟨g, 0, none⟩) n cap])
    have hb4 := Lib.hid ((hb9.out.trans (hq.mono hb9.out.size)).alloc (hb9.out.trans (hq.mono hb9.out.size)).size (.cells #[Value.int .i64 (pj : Int), Value.int .i64 view, Value.int .i64 commit, Value.slice (some ⟨g, 0, none⟩) n cap] 24))
    have hLR4 := Lib.hid ((hLR9.out.more hq).more (a1 w4 (.cells #[Value.int .i64 (pj : Int), Value.int .i64 view, Value.int .i64 commit, Value.slice (some ⟨g, 0, none⟩) n cap] 24)))
    (try simp only at hrow4 hE4 hv4)
    have hl4 : sl4.length = n := by
      have := congrArg List.length hv4
      simp only [List.length_map] at this
      rw [this]; exact hl.out
    have hgw4 := hrow4.grown_base hl4.symm
    have hz2 := hZ9.out.lt
    have hgg : Hid (g < g9) := by show g < g9; rw [hg9]; exact hgw4.2
    have hg9w : Hid (w.heap.size + 2 ≤ g ∧ w.heap.size + 2 ≤ g9 ∧ w.heap.size + 1 < g) := by have := hgg.out; show _ ∧ _ ∧ _; omega
    have hE4' : Hid (∀ s ∈ sl4, SmAt (w4.alloc (.cells #[Value.int .i64 (pj : Int), Value.int .i64 view, Value.int .i64 commit, Value.slice (some ⟨g, 0, none⟩) n cap] 24)) (fun b => ((Q b ∧ b < w.heap.size) ∨ w.heap.size + 2 ≤ b) ∧ b ≠ g ∧ b ≠ g9) s) := fun s hs => ((hE4 s hs).lt.imp (Q' := (fun b => ((Q b ∧ b < w.heap.size) ∨ w.heap.size + 2 ≤ b) ∧ b ≠ g ∧ b ≠ g9)) (fun b hb => ⟨hb.1.1.elim (fun h => Or.inl h) (fun h => Or.inr (by omega)), hb.1.2, by have := hb.2; omega⟩)).more (a1 w4 _)
    have hrow4' := Lib.hid ((hrow4.mono (show w.heap.size + 2 ≤ w9.heap.size by omega)).kept (a1 w4 (.cells #[Value.int .i64 (pj : Int), Value.int .i64 view, Value.int .i64 commit, Value.slice (some ⟨g, 0, none⟩) n cap] 24)))
    replace hv4 := Lib.hid hv4
    replace hl4 := Lib.hid hl4
    have hLt : Hid (LogAt (w4.alloc (.cells #[Value.int .i64 (pj : Int), Value.int .i64 view, Value.int .i64 commit, Value.slice (some ⟨g, 0, none⟩) n cap] 24)) (fun b => (w.heap.size + 2) ≤ b ∧ b < w9.heap.size) lA ln lc L8) := (((hLR9.out.at_ hL8n.out).lt).more hq).more (a1 w4 _)
    have hgw9 : Hid (w9.heap.size ≤ g) := hgw4.1
    clear hq hrow4 hE4 hX9 hZ9 hb9 hLR9 hgw4
    rw [← hg9] at hN4
    obtain ⟨q0, q1, q2, q3⟩ := cells4 ((w4.alloc (.cells #[Value.int .i64 (pj : Int), Value.int .i64 view, Value.int .i64 commit, Value.slice (some ⟨g, 0, none⟩) n cap] 24))) (g9) (Value.int .i64 (pj : Int)) (Value.int .i64 view) (Value.int .i64 commit) (Value.slice (some ⟨g, 0, none⟩) n cap) (hN4.out)
    obtain ⟨k0, k1, k2, k3⟩ := cells4 ((w4.alloc (.cells #[Value.int .i64 (pj : Int), Value.int .i64 view, Value.int .i64 commit, Value.slice (some ⟨g, 0, none⟩) n cap] 24))) (w.heap.size) (Value.int .i64 (pj : Int)) (Value.int .i64 view) (Value.int .i64 commit) (Value.slice (some ad) n c) (hX4.out)
    rw [hg9] at q0 q1 q2 q3
    have hpl4 : pj < sl4.length := by rw [hl4.out]; exact hpn
    obtain ⟨x4, hx4⟩ : ∃ x4, sl4[pj] = x4 := ⟨_, rfl⟩
    have hx4v : Hid (x4.val = ⟨pu, pv, pl.map Em.val⟩) := by
      have e1 : (sl4.map Sm.val)[pj]? = (sl.map Sm.val)[pj]? := by rw [hv4.out]
      rw [List.getElem?_map, List.getElem?_map, List.getElem?_eq_getElem hpl4, hpx.out, hx4] at e1
      injection e1
    replace hx4 := Lib.hid hx4
    obtain ⟨yu, yv, yA, yn, yc, yl⟩ := x4
    obtain rfl : pu = yu := (congrArg Sv.up hx4v.out).symm
    obtain rfl : pv = yv := (congrArg Sv.view hx4v.out).symm
    have c6 : (w4.alloc (.cells #[Value.int .i64 (pj : Int), Value.int .i64 view, Value.int .i64 commit, Value.slice (some ⟨g, 0, none⟩) n cap] 24)).cell? ⟨g, pj * 3 + 2, none⟩ = some (Value.slice yA yn yc) := by
      have := hrow4'.out.cellAt hl4.out.symm (k := pj) hpl4 (j := 2) (by decide); rw [hx4.out] at this; exact this
    have z6 : (w4.alloc (.cells #[Value.int .i64 (pj : Int), Value.int .i64 view, Value.int .i64 commit, Value.slice (some ⟨g, 0, none⟩) n cap] 24)).frozen? ⟨g, pj * 3 + 2, none⟩ = false := hrow4'.out.frozenAt hl4.out.symm _
    go_wp2_with fail
    clear k0 k1 k2 k3 q0 q1 q2 q3 c6 z6
    rw [← hg9]
    have hgS : Hid ((w4.alloc (.cells #[Value.int .i64 (pj : Int), Value.int .i64 view, Value.int .i64 commit, Value.slice (some ⟨g, 0, none⟩) n cap] 24)).grownBy ((w4.alloc (.cells #[Value.int .i64 (pj : Int), Value.int .i64 view, Value.int .i64 commit, Value.slice (some ⟨g, 0, none⟩) n cap] 24)).setCell ⟨g, pj * 3 + 2, none⟩ (Value.slice lA ln lc)) (some g)) := only_set (World.grownBy.refl _ _) _ _
    have hXS := Lib.hid (hX4.out.grown hgS.out (by intro e; injection e with e; have := hg9w.out; have := hgg.out; omega))
    have hZS := Lib.hid (hZ4.out.grown hgS.out (by intro e; injection e with e; have := hg9w.out; have := hgg.out; omega))
    have hNS := Lib.hid (hN4.out.grown hgS.out (by intro e; injection e with e; have := hg9w.out; have := hgg.out; omega))
    have hbS := Lib.hid (hb4.out.grown hgS.out hb4.out.size (fun g8 e8 => by injection e8 with e8; have := hg9w.out; omega))
    have hrowS := (hrow4'.out.storep hl4.out.symm (k := pj) hpl4 (⟨pu, pv, lA, ln, lc, L8⟩ : Sm) 2 [Value.slice lA ln lc] (by simp) (row_set hpl4 ⟨pu, pv, yA, yn, yc, yl⟩ _ 2 _ (by decide) hx4.out (by
      intro j hj h1
      have : j = 0 ∨ j = 1 := by omega
      rcases this with rfl | rfl <;> rfl) rfl)).1
    replace hrowS : Hid (LOwn svC 3 47 ((w4.alloc (.cells #[Value.int .i64 (pj : Int), Value.int .i64 view, Value.int .i64 commit, Value.slice (some ⟨g, 0, none⟩) n cap] 24)).setCell ⟨g, pj * 3 + 2, none⟩ (Value.slice lA ln lc)) (w.heap.size + 2) (.slice (some ⟨g, 0, none⟩) n cap) (sl4.set pj (⟨pu, pv, lA, ln, lc, L8⟩ : Sm))) := hrowS
    have hLRS : Hid (LogR (w.heap.size + 2) L8 (.slice lA ln lc) ((w4.alloc (.cells #[Value.int .i64 (pj : Int), Value.int .i64 view, Value.int .i64 commit, Value.slice (some ⟨g, 0, none⟩) n cap] 24)).setCell ⟨g, pj * 3 + 2, none⟩ (Value.slice lA ln lc))) := hLR4.out.row hrow4'.out (by decide) (by decide) hgS.out
    have hES : Hid (∀ s ∈ sl4.set pj (⟨pu, pv, lA, ln, lc, L8⟩ : Sm), SmAt ((w4.alloc (.cells #[Value.int .i64 (pj : Int), Value.int .i64 view, Value.int .i64 commit, Value.slice (some ⟨g, 0, none⟩) n cap] 24)).setCell ⟨g, pj * 3 + 2, none⟩ (Value.slice lA ln lc)) (fun b => ((Q b ∧ b < w.heap.size) ∨ w.heap.size + 2 ≤ b) ∧ b ≠ g ∧ b ≠ g9) s) := fun s hs => by
      rcases List.mem_or_eq_of_mem_set hs with hs | rfl
      · exact (hE4' s hs).st hgS.out (fun b hb e => by injection e with e; exact hb.2.1 e)
      · show LogAt _ (fun b => ((Q b ∧ b < w.heap.size) ∨ w.heap.size + 2 ≤ b) ∧ b ≠ g ∧ b ≠ g9) _ _ _ _
        have h1 := hgw9.out
        have h2 := hgg.out
        refine LogAt.imp (LogAt.st hLt.out hgS.out (fun b hb e => ?_)) (fun b hb => ⟨Or.inr hb.1, by omega, by omega⟩)
        injection e with e; omega
    obtain ⟨U0, hU0⟩ : ∃ U0 : List Sv, U0 = (sl4.set pj (⟨pu, pv, lA, ln, lc, L8⟩ : Sm)).map Sm.val := ⟨_, rfl⟩
    have hU0' : U0 = (sl.map Sm.val).set pj ⟨pu, pv, nl⟩ := by rw [hU0, List.map_set, hv4.out]; congr 1; show Sv.mk pu pv (L8.map Em.val) = _; rw [hL8.out]
    obtain ⟨R, hR⟩ : ∃ R, R = updS view nl reach (pj : Int) U0 0 1 := ⟨_, rfl⟩
    have hr2 : Hid (r = if majN n R.2.toNat = true then ((⟨(pj : Int), view, nl.length, R.1⟩ : Cv), (pn : Int), (0 : Int)) else (⟨-1, view, commit, R.1.set pj ⟨false, pv, nl⟩⟩, 0, 18)) := by
      show _ = _
      rw [hr.out, hsub.out nl U0 R hnl hU0' hR, if_neg (fun h => h.elim r1 (fun h => r2 (by rw [List.length_map, hpnl.out] at h; exact h))), List.length_map, hpnl.out]
    have hUp : Hid (U0[pj]? = some ⟨pu, pv, nl⟩) := by show _ = _; rw [hU0', List.getElem?_set_self (by simpa using hpl)]
    clear hX4 hZ4 hN4 hb4 hrow4' hLR4 hLt hE4' hgS hsub hU0'
    replace hR := Lib.hid hR
    replace hg9 := Lib.hid hg9
    generalize ((w4.alloc (.cells #[Value.int .i64 (pj : Int), Value.int .i64 view, Value.int .i64 commit, Value.slice (some ⟨g, 0, none⟩) n cap] 24)).setCell ⟨g, pj * 3 + 2, none⟩ (Value.slice lA ln lc)) = w5 at *
    go_loopw [12, 11] (fun i v11 wr => ∃ (k h : Nat) (T : List Sm), k ≤ n ∧ 1 ≤ h ∧ h ≤ k + 1 ∧ i = .int .i64 k ∧ v11 = .int .i64 h ∧ Hid (T.length = n) ∧ Hid (LOwn svC 3 47 wr (w.heap.size + 2) (.slice (some ⟨g, 0, none⟩) n cap) T) ∧ Hid (∀ s ∈ T, SmAt wr (fun b => ((Q b ∧ b < w.heap.size) ∨ w.heap.size + 2 ≤ b) ∧ b ≠ g ∧ b ≠ g9) s) ∧ Hid (R = ((T.map Sm.val).take k ++ (updS view nl reach (pj : Int) ((T.map Sm.val).drop k) k h).1, (updS view nl reach (pj : Int) ((T.map Sm.val).drop k) k h).2)) ∧ Hid ((T.map Sm.val)[pj]? = some ⟨pu, pv, nl⟩) ∧ Hid (Blk wr w.heap.size 24 #[Value.int .i64 (pj : Int), Value.int .i64 view, Value.int .i64 commit, Value.slice (some ad) n c]) ∧ Hid (Blk wr (w.heap.size + 1) 24 #[Value.int .i64 0, Value.int .i64 0, Value.int .i64 0, Value.slice none 0 0]) ∧ Hid (Blk wr g9 24 #[Value.int .i64 (pj : Int), Value.int .i64 view, Value.int .i64 commit, Value.slice (some ⟨g, 0, none⟩) n cap]) ∧ Hid (LogR (w.heap.size + 2) L8 (.slice lA ln lc) wr) ∧ Hid (Below w.heap.size w wr)) (fun i _ _ => n - (intOf i).toNat)
    case atStart => exact ⟨0, 1, _, Nat.zero_le _, Nat.le_refl _, Nat.le_refl _, rfl, rfl, by show _ = _; rw [List.length_set]; exact hl4.out, hrowS.out, hES.out, by show _ = _; rw [← hU0, hR.out]; rfl, by rw [← hU0]; exact hUp.out, hXS.out, hZS.out, hNS.out, hLRS.out, hbS.out⟩
    clear hrowS hES hXS hZS hNS hbS hLRS
    case round =>
      obtain ⟨k, h, T, hkn, hh1, hhk, rfl, rfl, hTn, hrow, hE, hRk, hTp, hX, hZ, hN, hLR, hb⟩ := hrel
      by_cases hlt : k < n
      · have hkT : k < T.length := by rw [hTn.out]; exact hlt
        have hk0 : (0 : Int) ≤ k := by omega
        have hk1 : (k : Int) < n := by omega
        obtain ⟨x, hx⟩ : ∃ x, T[k]? = some x := ⟨_, List.getElem?_eq_getElem hkT⟩
        have hxe : Hid (T[k] = x) := (List.getElem?_eq_some_iff.1 hx).2
        have hUx : Hid ((T.map Sm.val)[k]? = some x.val) := by show _ = _; rw [List.getElem?_map, hx]; rfl
        clear hx
        obtain ⟨xu, xv, xA, xn, xc, xl⟩ := x
        have e0 : wr.cell? ⟨g, k * 3, none⟩ = some (Value.bool xu) := by
          have := hrow.out.cellAt hTn.out.symm (k := k) hkT (j := 0) (by decide); rw [hxe.out] at this; exact this
        obtain ⟨k0, k1, k2, k3⟩ := cells4 (wr) (w.heap.size) (Value.int .i64 (pj : Int)) (Value.int .i64 view) (Value.int .i64 commit) (Value.slice (some ad) n c) (hX.out)
        obtain ⟨q0, q1, q2, q3⟩ := cells4 (wr) (g9) (Value.int .i64 (pj : Int)) (Value.int .i64 view) (Value.int .i64 commit) (Value.slice (some ⟨g, 0, none⟩) n cap) (hN.out)
        by_cases q1 : k = pj
        · have q1d : ((k : Int) == (pj : Int)) = true := by simp; omega
          subst q1
          have hR1 : Hid (R = ((T.map Sm.val).take (k + 1) ++ (updS view nl reach (k : Int) ((T.map Sm.val).drop (k + 1)) (k + 1) (h : Int)).1, (updS view nl reach (k : Int) ((T.map Sm.val).drop (k + 1)) (k + 1) (h : Int)).2)) := by
            show _ = _
            have := upd_step view nl reach (k : Int) _ k h _ hUx.out R hRk.out (Sm.val ⟨xu, xv, xA, xn, xc, xl⟩) (h : Int) (by rw [if_pos rfl])
            rw [set_same _ k _ hUx.out] at this
            exact this
          go_wp2_with fail
          go_roundw
          case rel => exact ⟨k + 1, h, T, by omega, by omega, by omega, by go_num, by go_num, hTn.out, hrow.out, hE.out, hR1.out, hTp.out, hX.out, hZ.out, hN.out, hLR.out, hb.out⟩
          case measure => simp [intOf]; omega
        · have q1d : ((k : Int) == (pj : Int)) = false := by simp; omega
          have hkp : k ≠ pj := q1
          cases xu with
          | false =>
            have hR1 : Hid (R = ((T.map Sm.val).take (k + 1) ++ (updS view nl reach (pj : Int) ((T.map Sm.val).drop (k + 1)) (k + 1) (h : Int)).1, (updS view nl reach (pj : Int) ((T.map Sm.val).drop (k + 1)) (k + 1) (h : Int)).2)) := by
              show _ = _
              have := upd_step view nl reach (pj : Int) _ k h _ hUx.out R hRk.out (Sm.val ⟨false, xv, xA, xn, xc, xl⟩) (h : Int) (by rw [if_neg (by omega), if_neg (fun h => by cases h.1)])
              rw [set_same _ k _ hUx.out] at this
              exact this
            go_wp2_with fail
            go_roundw
            case rel => exact ⟨k + 1, h, T, by omega, by omega, by omega, by go_num, by go_num, hTn.out, hrow.out, hE.out, hR1.out, hTp.out, hX.out, hZ.out, hN.out, hLR.out, hb.out⟩
            case measure => simp [intOf]; omega
          | true =>
            by_cases q2 : reach < 1
            · have q2d : decide (reach < 1) = true := by simpa using q2
              have hre : Hid (reach < 1 ∨ (h : Int) < reach) := .inl q2
              have hcell : Hid (∀ wz, Below wr.heap.size wr wz → wz.cell? ⟨g9, 3, none⟩ = some (Value.slice (some ⟨g, 0, none⟩) n cap) ∧ wz.cell? ⟨w.heap.size, 1, none⟩ = some (Value.int .i64 view)) := fun wz hz => ⟨(hN.out.below hz hN.out.lt).cell 3, (hX.out.below hz hX.out.lt).cell 1⟩
              have hcl : Hid (∀ wz, Below wr.heap.size wr wz → Calls Try.prog 57 #[.slice lA ln lc] wz fun e w' => CopR wz.heap.size nl w' e ∧ Below wz.heap.size wz w') := fun wz hz => by
                rw [← hL8.out]
                exact copied_any lA ln lc L8 wz ((hLR.out.more hz).at_ hL8n.out) hlnb.out.1 hlnb.out.2
              have hlvl : Hid (nl.length = ln) := hnll
              go_wp2_with fail
              refine RUZ.region [] [] 8 (F := F31b g9 w.heap.size g n cap k ln lc wr.heap.size lA view nl) (W := fun wz => Below wr.heap.size wr wz) (R := fun _ => Rb) rfl F31b_more (by kernel_rfl) (by kernel_rfl) (by kernel_rfl) (by kernel_rfl) (by kernel_rfl) (by kernel_rfl) ?_ ?_ ?_ ?_
              · exact (Below.refl _ _).drew
              · intro t ht
                unfold F31b
                split <;> first | trivial | exact rfl | (exact absurd ht (by decide))
              · intro i o hi ho
                have hcs : i = 0 ∨ i = 1 ∨ i = 2 ∨ i = 3 ∨ i = 4 ∨ i = 5 ∨ i = 6 ∨ i = 7 := by omega
                rcases hcs with rfl | rfl | rfl | rfl | rfl | rfl | rfl | rfl <;> (injection ho with ho; subst ho)
                · intro a w2 hw _ hf K hK
                  have f0 := hf 10 rfl
                  simp only [F31b] at f0
                  clear hf
                  go_simp
                  exact hK _ _ _ rfl rfl hw (Below.refl _ _) (fun h => absurd h (by decide))
                · intro a w2 hw _ hf K hK
                  have f0 := hf 85 rfl
                  simp only [F31b] at f0
                  clear hf
                  have e := (hcell.out w2 hw).1
                  go_simp
                  exact hK _ _ _ rfl rfl hw (Below.refl _ _) (fun h => absurd h (by decide))
                · intro a w2 hw _ hf K hK
                  have f0 := hf 12 rfl
                  simp only [F31b] at f0
                  clear hf
                  go_simp
                  exact hK _ _ _ rfl rfl hw (Below.refl _ _) (fun h => absurd h (by decide))
                · intro a w2 hw _ hf K hK
                  have f0 := hf 3 rfl
                  simp only [F31b] at f0
                  clear hf
                  go_simp
                  exact hK _ _ _ rfl rfl hw (Below.refl _ _) (fun h => absurd h (by decide))
                · intro a w2 hw _ hf K hK
                  have f0 := hf 88 rfl
                  simp only [F31b] at f0
                  clear hf
                  have e := (hcell.out w2 hw).2
                  go_simp
                  exact hK _ _ _ rfl rfl hw (Below.refl _ _) (fun h => absurd h (by decide))
                · intro a w2 hw _ hf K hK
                  have f0 := hf 9 rfl
                  simp only [F31b] at f0
                  clear hf
                  go_simp
                  exact hK _ _ _ rfl rfl hw (Below.refl _ _) (fun h => absurd h (by decide))
                · intro a w2 hw _ hf K hK
                  have f0 := hf 90 rfl
                  simp only [F31b] at f0
                  clear hf
                  go_simp
                  refine (hcl.out w2 hw).mono ?_; rintro e w5 ⟨⟨v5, L5, rfl, hL5, hv5⟩, hbq⟩
                  obtain ⟨A5, c5, rfl⟩ := hL5.form
                  have hn5 : L5.length = ln := by have := congrArg List.length hv5; rw [List.length_map] at this; rw [this]; exact hlvl.out
                  rw [hn5] at hL5 ⊢
                  exact hK _ _ _ rfl ⟨A5, c5, L5, rfl, (hL5.at_ hn5).imp (fun b hb => Nat.le_trans hw.size hb), hv5⟩ (hw.trans (hbq.mono hw.size)) hbq (fun h => absurd h (by decide))
                · intro a w2 hw _ hf K hK
                  have f0 := hf 89 rfl
                  have f1 := hf 91 rfl
                  simp only [F31b] at f0 f1
                  clear hf
                  obtain ⟨A5, c5, l5, e5, h51, h52⟩ := f1
                  have h51 := Lib.hid h51
                  have h52 := Lib.hid h52
                  go_simp
                  exact hK _ _ _ rfl ⟨A5, c5, l5, rfl, h51.out, h52.out⟩ hw (Below.refl _ _) (fun h => absurd h (by decide))
              · intro a' w9 hd hs hw hout hf
                have h92 := hf 7 92 (by decide) rfl rfl
                simp only [F31b] at h92
                have h86 := hf 1 86 (by decide) rfl rfl
                simp only [F31b] at h86
                have h87 := hf 2 87 (by decide) rfl rfl
                simp only [F31b] at h87
                have e0 := hout 0 rfl
                have e1 := hout 1 rfl
                have e2 := hout 2 rfl
                have e3 := hout 3 rfl
                have e4 := hout 4 rfl
                have e5 := hout 5 rfl
                have e6 := hout 6 rfl
                have e7 := hout 7 rfl
                have e8 := hout 8 rfl
                have e9 := hout 9 rfl
                have e10 := hout 10 rfl
                have e11 := hout 11 rfl
                have e12 := hout 12 rfl
                have e13 := hout 13 rfl
                have e14 := hout 14 rfl
                have e15 := hout 15 rfl
                have e16 := hout 16 rfl
                have e17 := hout 17 rfl
                have e18 := hout 18 rfl
                have e19 := hout 19 rfl
                have e20 := hout 20 rfl
                have e21 := hout 21 rfl
                have e22 := hout 22 rfl
                have e23 := hout 23 rfl
                have e24 := hout 24 rfl
                have e25 := hout 25 rfl
                have e26 := hout 26 rfl
                have e27 := hout 27 rfl
                have e28 := hout 28 rfl
                have e29 := hout 29 rfl
                have e30 := hout 30 rfl
                have e31 := hout 31 rfl
                have e32 := hout 32 rfl
                have e33 := hout 33 rfl
                have e34 := hout 34 rfl
                have e35 := hout 35 rfl
                have e36 := hout 36 rfl
                have e37 := hout 37 rfl
                have e38 := hout 38 rfl
                have e39 := hout 39 rfl
                have e40 := hout 40 rfl
                have e41 := hout 41 rfl
                have e42 := hout 42 rfl
                have e43 := hout 43 rfl
                have e44 := hout 44 rfl
                have e45 := hout 45 rfl
                have e46 := hout 46 rfl
                have e47 := hout 47 rfl
                have e48 := hout 48 rfl
                have e49 := hout 49 rfl
                have e50 := hout 50 rfl
                have e51 := hout 51 rfl
                have e52 := hout 52 rfl
                have e53 := hout 53 rfl
                have e54 := hout 54 rfl
                have e55 := hout 55 rfl
                have e56 := hout 56 rfl
                have e57 := hout 57 rfl
                have e58 := hout 58 rfl
                have e59 := hout 59 rfl
                have e60 := hout 60 rfl
                have e61 := hout 61 rfl
                have e62 := hout 62 rfl
                have e63 := hout 63 rfl
                have e64 := hout 64 rfl
                have e65 := hout 65 rfl
                have e66 := hout 66 rfl
                have e67 := hout 67 rfl
                have e68 := hout 68 rfl
                have e69 := hout 69 rfl
                have e70 := hout 70 rfl
                have e71 := hout 71 rfl
                have e72 := hout 72 rfl
                have e73 := hout 73 rfl
                have e74 := hout 74 rfl
                have e75 := hout 75 rfl
                have e76 := hout 76 rfl
                have e77 := hout 77 rfl
                have e78 := hout 78 rfl
                have e79 := hout 79 rfl
                have e80 := hout 80 rfl
                have e81 := hout 81 rfl
                have e82 := hout 82 rfl
                have e83 := hout 83 rfl
                have e84 := hout 84 rfl
                have e94 := hout 94 rfl
                have e95 := hout 95 rfl
                have e96 := hout 96 rfl
                have e97 := hout 97 rfl
                have e98 := hout 98 rfl
                have e99 := hout 99 rfl
                have e100 := hout 100 rfl
                have e101 := hout 101 rfl
                have e102 := hout 102 rfl
                have e103 := hout 103 rfl
                have e104 := hout 104 rfl
                have e105 := hout 105 rfl
                have e106 := hout 106 rfl
                have e107 := hout 107 rfl
                have e108 := hout 108 rfl
                have e109 := hout 109 rfl
                have e110 := hout 110 rfl
                have e111 := hout 111 rfl
                have e112 := hout 112 rfl
                have e113 := hout 113 rfl
                have e114 := hout 114 rfl
                have e115 := hout 115 rfl
                have e116 := hout 116 rfl
                simp only [List.getElem?_toArray, List.getElem?_cons_succ, List.getElem?_cons_zero] at e0 e1 e2 e3 e4 e5 e6 e7 e8 e9 e10 e11 e12 e13 e14 e15 e16 e17 e18 e19 e20 e21 e22 e23 e24 e25 e26 e27 e28 e29 e30 e31 e32 e33 e34 e35 e36 e37 e38 e39 e40 e41 e42 e43 e44 e45 e46 e47 e48 e49 e50 e51 e52 e53 e54 e55 e56 e57 e58 e59 e60 e61 e62 e63 e64 e65 e66 e67 e68 e69 e70 e71 e72 e73 e74 e75 e76 e77 e78 e79 e80 e81 e82 e83 e84 e94 e95 e96 e97 e98 e99 e100 e101 e102 e103 e104 e105 e106 e107 e108 e109 e110 e111 e112 e113 e114 e115 e116
                obtain ⟨tm, df⟩ := a'
                simp only at hd hs h92 h86 h87 e0 e1 e2 e3 e4 e5 e6 e7 e8 e9 e10 e11 e12 e13 e14 e15 e16 e17 e18 e19 e20 e21 e22 e23 e24 e25 e26 e27 e28 e29 e30 e31 e32 e33 e34 e35 e36 e37 e38 e39 e40 e41 e42 e43 e44 e45 e46 e47 e48 e49 e50 e51 e52 e53 e54 e55 e56 e57 e58 e59 e60 e61 e62 e63 e64 e65 e66 e67 e68 e69 e70 e71 e72 e73 e74 e75 e76 e77 e78 e79 e80 e81 e82 e83 e84 e94 e95 e96 e97 e98 e99 e100 e101 e102 e103 e104 e105 e106 e107 e108 e109 e110 e111 e112 e113 e114 e115 e116
                have e := F31b_lit tm hs
                simp only [h86, h87, e0, e1, e2, e3, e4, e5, e6, e7, e8, e9, e10, e11, e12, e13, e14, e15, e16, e17, e18, e19, e20, e21, e22, e23, e24, e25, e26, e27, e28, e29, e30, e31, e32, e33, e34, e35, e36, e37, e38, e39, e40, e41, e42, e43, e44, e45, e46, e47, e48, e49, e50, e51, e52, e53, e54, e55, e56, e57, e58, e59, e60, e61, e62, e63, e64, e65, e66, e67, e68, e69, e70, e71, e72, e73, e74, e75, e76, e77, e78, e79, e80, e81, e82, e83, e84, e94, e95, e96, e97, e98, e99, e100, e101, e102, e103, e104, e105, e106, e107, e108, e109, e110, e111, e112, e113, e114, e115, e116, Option.getD_some] at e
                clear hf hout hs
                rw [e, hd]
                clear e hd h86 h87 e0 e1 e2 e3 e4 e5 e6 e7 e8 e9 e10 e11 e12 e13 e14 e15 e16 e17 e18 e19 e20 e21 e22 e23 e24 e25 e26 e27 e28 e29 e30 e31 e32 e33 e34 e35 e36 e37 e38 e39 e40 e41 e42 e43 e44 e45 e46 e47 e48 e49 e50 e51 e52 e53 e54 e55 e56 e57 e58 e59 e60 e61 e62 e63 e64 e65 e66 e67 e68 e69 e70 e71 e72 e73 e74 e75 e76 e77 e78 e79 e80 e81 e82 e83 e84 e94 e95 e96 e97 e98 e99 e100 e101 e102 e103 e104 e105 e106 e107 e108 e109 e110 e111 e112 e113 e114 e115 e116
                generalize tm[92]?.getD undef = u92x at h92 ⊢
                generalize tm[85]?.getD undef = u85x, tm[88]?.getD undef = u88x, tm[89]?.getD undef = u89x, tm[90]?.getD undef = u90x, tm[91]?.getD undef = u91x, tm[93]?.getD undef = u93x
                obtain ⟨A9, c9, l9, rfl, hl9, hv9⟩ := h92
                have hrow9 := Lib.hid (hrow.out.kept hw)
                have hX9 := Lib.hid (hX.out.below hw hX.out.lt)
                have hZ9 := Lib.hid (hZ.out.below hw hZ.out.lt)
                have hN9 := Lib.hid (hN.out.below hw hN.out.lt)
                have hb9 : Hid (Below w.heap.size w w9) := hb.out.trans (hw.mono hb.out.size)
                have hE9 : Hid (∀ s ∈ T, SmAt w9 (fun b => ((Q b ∧ b < w.heap.size) ∨ w.heap.size + 2 ≤ b) ∧ b ≠ g ∧ b ≠ g9) s) := fun s hs => (hE.out s hs).more hw
                have hLR9 := Lib.hid (hLR.out.more hw)
                have hgX : Hid (g < wr.heap.size ∧ g9 < wr.heap.size) := ⟨(hrow.out.grown_base hTn.out.symm).2, hN.out.lt⟩
                have hwr2 : Hid (w.heap.size + 2 ≤ wr.heap.size) := hZ.out.lt
                replace hl9 := Lib.hid hl9
                replace hv9 := Lib.hid hv9
                clear hw hcell hcl hrow hX hZ hN hb hE hLR
                obtain ⟨q0, q1, q2, q3⟩ := cells4 (w9) (g9) (Value.int .i64 (pj : Int)) (Value.int .i64 view) (Value.int .i64 commit) (Value.slice (some ⟨g, 0, none⟩) n cap) (hN9.out)
                obtain ⟨c5, c6, c7⟩ := (show w9.cell? ⟨g, k * 3, none⟩ = some (Value.bool true) ∧ w9.cell? ⟨g, k * 3 + 1, none⟩ = some (Value.int .i64 xv) ∧ w9.cell? ⟨g, k * 3 + 2, none⟩ = some (Value.slice xA xn xc) from by
                  refine ⟨?_, ?_, ?_⟩
                  · have := hrow9.out.cellAt hTn.out.symm (k := k) hkT (j := 0) (by decide); rw [hxe.out] at this; exact this
                  · have := hrow9.out.cellAt hTn.out.symm (k := k) hkT (j := 1) (by decide); rw [hxe.out] at this; exact this
                  · have := hrow9.out.cellAt hTn.out.symm (k := k) hkT (j := 2) (by decide); rw [hxe.out] at this; exact this)
                have z5 : w9.frozen? ⟨g, k * 3, none⟩ = false := hrow9.out.frozenAt hTn.out.symm _
                have z6 : w9.frozen? ⟨g, k * 3 + 1, none⟩ = false := hrow9.out.frozenAt hTn.out.symm _
                have z7 : w9.frozen? ⟨g, k * 3 + 2, none⟩ = false := hrow9.out.frozenAt hTn.out.symm _
                have hst := hrow9.out.store hTn.out.symm (k := k) hkT (⟨true, view, A9, ln, c9, l9⟩ : Sm)
                have hrow3 : Hid (LOwn svC 3 47 (((w9.setCell ⟨g, k * 3, none⟩ (Value.bool true)).setCell ⟨g, k * 3 + 1, none⟩ (Value.int .i64 view)).setCell ⟨g, k * 3 + 2, none⟩ (Value.slice A9 ln c9)) (w.heap.size + 2) (.slice (some ⟨g, 0, none⟩) n cap) (T.set k (⟨true, view, A9, ln, c9, l9⟩ : Sm))) := hst.1
                have hg3 : Hid (w9.grownBy (((w9.setCell ⟨g, k * 3, none⟩ (Value.bool true)).setCell ⟨g, k * 3 + 1, none⟩ (Value.int .i64 view)).setCell ⟨g, k * 3 + 2, none⟩ (Value.slice A9 ln c9)) (some g)) := hst.2
                have hE3 : Hid (∀ s ∈ T.set k (⟨true, view, A9, ln, c9, l9⟩ : Sm), SmAt (((w9.setCell ⟨g, k * 3, none⟩ (Value.bool true)).setCell ⟨g, k * 3 + 1, none⟩ (Value.int .i64 view)).setCell ⟨g, k * 3 + 2, none⟩ (Value.slice A9 ln c9)) (fun b => ((Q b ∧ b < w.heap.size) ∨ w.heap.size + 2 ≤ b) ∧ b ≠ g ∧ b ≠ g9) s) := fun s hs => by
                  rcases List.mem_or_eq_of_mem_set hs with hs | rfl
                  · exact (hE9.out s hs).st hg3.out (fun b hb e => by injection e with e; exact hb.2.1 e)
                  · show LogAt _ (fun b => ((Q b ∧ b < w.heap.size) ∨ w.heap.size + 2 ≤ b) ∧ b ≠ g ∧ b ≠ g9) _ _ _ _
                    have h1 := hgX.out
                    have h2 := hwr2.out
                    refine LogAt.imp (LogAt.st hl9.out hg3.out (fun b hb e => ?_)) (fun b hb => ⟨Or.inr (by omega), by omega, by omega⟩)
                    injection e with e; omega
                have hU3 : (T.set k (⟨true, view, A9, ln, c9, l9⟩ : Sm)).map Sm.val = (T.map Sm.val).set k ⟨true, view, nl⟩ := by
                  rw [List.map_set]
                  show _ = _
                  congr 1
                  show Sv.mk true view (l9.map Em.val) = _
                  rw [hv9.out]
                have hX3 := Lib.hid (hX9.out.grown hg3.out (by intro e; injection e with e; have := hg9w.out; have := hgg.out; omega))
                have hZ3 := Lib.hid (hZ9.out.grown hg3.out (by intro e; injection e with e; have := hg9w.out; have := hgg.out; omega))
                have hN3 := Lib.hid (hN9.out.grown hg3.out (by intro e; injection e with e; have := hg9w.out; have := hgg.out; omega))
                have hLR3 : Hid (LogR (w.heap.size + 2) L8 (.slice lA ln lc) (((w9.setCell ⟨g, k * 3, none⟩ (Value.bool true)).setCell ⟨g, k * 3 + 1, none⟩ (Value.int .i64 view)).setCell ⟨g, k * 3 + 2, none⟩ (Value.slice A9 ln c9))) := hLR9.out.row hrow9.out (by decide) (by decide) hg3.out
                have hb3 := Lib.hid (hb9.out.grown hg3.out hb9.out.size (fun g8 e8 => by injection e8 with e8; have := hg9w.out; have := hgg.out; omega))
                have hl3 : Hid ((T.set k (⟨true, view, A9, ln, c9, l9⟩ : Sm)).length = n) := by show _ = _; rw [List.length_set]; exact hTn.out
                have hR3 : Hid (R = (((T.set k (⟨true, view, A9, ln, c9, l9⟩ : Sm)).map Sm.val).take (k + 1) ++ (updS view nl reach (pj : Int) (((T.set k (⟨true, view, A9, ln, c9, l9⟩ : Sm)).map Sm.val).drop (k + 1)) (k + 1) ((h + 1 : Nat) : Int)).1, (updS view nl reach (pj : Int) (((T.set k (⟨true, view, A9, ln, c9, l9⟩ : Sm)).map Sm.val).drop (k + 1)) (k + 1) ((h + 1 : Nat) : Int)).2)) := by
                  show _ = _
                  rw [hU3]
                  exact upd_step view nl reach (pj : Int) _ k h _ hUx.out R hRk.out _ _ (by rw [if_neg (by omega), if_pos ⟨rfl, hre.out⟩]; rfl)
                have hT3 : Hid (((T.set k (⟨true, view, A9, ln, c9, l9⟩ : Sm)).map Sm.val)[pj]? = some ⟨pu, pv, nl⟩) := by show _ = _; rw [hU3, List.getElem?_set_ne hkp]; exact hTp.out
                clear hU3 hst hRk hTp hE9 hrow9 hX9 hZ9 hN9 hLR9 hb9 hl9
                go_wp2_with fail
                go_roundw
                case rel => exact ⟨k + 1, h + 1, T.set k (⟨true, view, A9, ln, c9, l9⟩ : Sm), by omega, by omega, by omega, by go_num, by go_num, hl3.out, hrow3.out, hE3.out, hR3.out, hT3.out, hX3.out, hZ3.out, hN3.out, hLR3.out, hb3.out⟩
                case measure => simp [intOf]; omega
            · have q2d : decide (reach < 1) = false := by simpa using q2
              by_cases q3 : (h : Int) < reach
              · have q3d : decide ((h : Int) < reach) = true := by simpa using q3
                have hre : Hid (reach < 1 ∨ (h : Int) < reach) := .inr q3
                have hcell : Hid (∀ wz, Below wr.heap.size wr wz → wz.cell? ⟨g9, 3, none⟩ = some (Value.slice (some ⟨g, 0, none⟩) n cap) ∧ wz.cell? ⟨w.heap.size, 1, none⟩ = some (Value.int .i64 view)) := fun wz hz => ⟨(hN.out.below hz hN.out.lt).cell 3, (hX.out.below hz hX.out.lt).cell 1⟩
                have hcl : Hid (∀ wz, Below wr.heap.size wr wz → Calls Try.prog 57 #[.slice lA ln lc] wz fun e w' => CopR wz.heap.size nl w' e ∧ Below wz.heap.size wz w') := fun wz hz => by
                  rw [← hL8.out]
                  exact copied_any lA ln lc L8 wz ((hLR.out.more hz).at_ hL8n.out) hlnb.out.1 hlnb.out.2
                have hlvl : Hid (nl.length = ln) := hnll
                go_wp2_with fail
                refine RUZ.region [] [] 8 (F := F31b g9 w.heap.size g n cap k ln lc wr.heap.size lA view nl) (W := fun wz => Below wr.heap.size wr wz) (R := fun _ => Rb) rfl F31b_more (by kernel_rfl) (by kernel_rfl) (by kernel_rfl) (by kernel_rfl) (by kernel_rfl) (by kernel_rfl) ?_ ?_ ?_ ?_
                · exact (Below.refl _ _).drew
                · intro t ht
                  unfold F31b
                  split <;> first | trivial | exact rfl | (exact absurd ht (by decide))
                · intro i o hi ho
                  have hcs : i = 0 ∨ i = 1 ∨ i = 2 ∨ i = 3 ∨ i = 4 ∨ i = 5 ∨ i = 6 ∨ i = 7 := by omega
                  rcases hcs with rfl | rfl | rfl | rfl | rfl | rfl | rfl | rfl <;> (injection ho with ho; subst ho)
                  · intro a w2 hw _ hf K hK
                    have f0 := hf 10 rfl
                    simp only [F31b] at f0
                    clear hf
                    go_simp
                    exact hK _ _ _ rfl rfl hw (Below.refl _ _) (fun h => absurd h (by decide))
                  · intro a w2 hw _ hf K hK
                    have f0 := hf 85 rfl
                    simp only [F31b] at f0
                    clear hf
                    have e := (hcell.out w2 hw).1
                    go_simp
                    exact hK _ _ _ rfl rfl hw (Below.refl _ _) (fun h => absurd h (by decide))
                  · intro a w2 hw _ hf K hK
                    have f0 := hf 12 rfl
                    simp only [F31b] at f0
                    clear hf
                    go_simp
                    exact hK _ _ _ rfl rfl hw (Below.refl _ _) (fun h => absurd h (by decide))
                  · intro a w2 hw _ hf K hK
                    have f0 := hf 3 rfl
                    simp only [F31b] at f0
                    clear hf
                    go_simp
                    exact hK _ _ _ rfl rfl hw (Below.refl _ _) (fun h => absurd h (by decide))
                  · intro a w2 hw _ hf K hK
                    have f0 := hf 88 rfl
                    simp only [F31b] at f0
                    clear hf
                    have e := (hcell.out w2 hw).2
                    go_simp
                    exact hK _ _ _ rfl rfl hw (Below.refl _ _) (fun h => absurd h (by decide))
                  · intro a w2 hw _ hf K hK
                    have f0 := hf 9 rfl
                    simp only [F31b] at f0
                    clear hf
                    go_simp
                    exact hK _ _ _ rfl rfl hw (Below.refl _ _) (fun h => absurd h (by decide))
                  · intro a w2 hw _ hf K hK
                    have f0 := hf 90 rfl
                    simp only [F31b] at f0
                    clear hf
                    go_simp
                    refine (hcl.out w2 hw).mono ?_; rintro e w5 ⟨⟨v5, L5, rfl, hL5, hv5⟩, hbq⟩
                    obtain ⟨A5, c5, rfl⟩ := hL5.form
                    have hn5 : L5.length = ln := by have := congrArg List.length hv5; rw [List.length_map] at this; rw [this]; exact hlvl.out
                    rw [hn5] at hL5 ⊢
                    exact hK _ _ _ rfl ⟨A5, c5, L5, rfl, (hL5.at_ hn5).imp (fun b hb => Nat.le_trans hw.size hb), hv5⟩ (hw.trans (hbq.mono hw.size)) hbq (fun h => absurd h (by decide))
                  · intro a w2 hw _ hf K hK
                    have f0 := hf 89 rfl
                    have f1 := hf 91 rfl
                    simp only [F31b] at f0 f1
                    clear hf
                    obtain ⟨A5, c5, l5, e5, h51, h52⟩ := f1
                    have h51 := Lib.hid h51
                    have h52 := Lib.hid h52
                    go_simp
                    exact hK _ _ _ rfl ⟨A5, c5, l5, rfl, h51.out, h52.out⟩ hw (Below.refl _ _) (fun h => absurd h (by decide))
                · intro a' w9 hd hs hw hout hf
                  have h92 := hf 7 92 (by decide) rfl rfl
                  simp only [F31b] at h92
                  have h86 := hf 1 86 (by decide) rfl rfl
                  simp only [F31b] at h86
                  have h87 := hf 2 87 (by decide) rfl rfl
                  simp only [F31b] at h87
                  have e0 := hout 0 rfl
                  have e1 := hout 1 rfl
                  have e2 := hout 2 rfl
                  have e3 := hout 3 rfl
                  have e4 := hout 4 rfl
                  have e5 := hout 5 rfl
                  have e6 := hout 6 rfl
                  have e7 := hout 7 rfl
                  have e8 := hout 8 rfl
                  have e9 := hout 9 rfl
                  have e10 := hout 10 rfl
                  have e11 := hout 11 rfl
                  have e12 := hout 12 rfl
                  have e13 := hout 13 rfl
                  have e14 := hout 14 rfl
                  have e15 := hout 15 rfl
                  have e16 := hout 16 rfl
                  have e17 := hout 17 rfl
                  have e18 := hout 18 rfl
                  have e19 := hout 19 rfl
                  have e20 := hout 20 rfl
                  have e21 := hout 21 rfl
                  have e22 := hout 22 rfl
                  have e23 := hout 23 rfl
                  have e24 := hout 24 rfl
                  have e25 := hout 25 rfl
                  have e26 := hout 26 rfl
                  have e27 := hout 27 rfl
                  have e28 := hout 28 rfl
                  have e29 := hout 29 rfl
                  have e30 := hout 30 rfl
                  have e31 := hout 31 rfl
                  have e32 := hout 32 rfl
                  have e33 := hout 33 rfl
                  have e34 := hout 34 rfl
                  have e35 := hout 35 rfl
                  have e36 := hout 36 rfl
                  have e37 := hout 37 rfl
                  have e38 := hout 38 rfl
                  have e39 := hout 39 rfl
                  have e40 := hout 40 rfl
                  have e41 := hout 41 rfl
                  have e42 := hout 42 rfl
                  have e43 := hout 43 rfl
                  have e44 := hout 44 rfl
                  have e45 := hout 45 rfl
                  have e46 := hout 46 rfl
                  have e47 := hout 47 rfl
                  have e48 := hout 48 rfl
                  have e49 := hout 49 rfl
                  have e50 := hout 50 rfl
                  have e51 := hout 51 rfl
                  have e52 := hout 52 rfl
                  have e53 := hout 53 rfl
                  have e54 := hout 54 rfl
                  have e55 := hout 55 rfl
                  have e56 := hout 56 rfl
                  have e57 := hout 57 rfl
                  have e58 := hout 58 rfl
                  have e59 := hout 59 rfl
                  have e60 := hout 60 rfl
                  have e61 := hout 61 rfl
                  have e62 := hout 62 rfl
                  have e63 := hout 63 rfl
                  have e64 := hout 64 rfl
                  have e65 := hout 65 rfl
                  have e66 := hout 66 rfl
                  have e67 := hout 67 rfl
                  have e68 := hout 68 rfl
                  have e69 := hout 69 rfl
                  have e70 := hout 70 rfl
                  have e71 := hout 71 rfl
                  have e72 := hout 72 rfl
                  have e73 := hout 73 rfl
                  have e74 := hout 74 rfl
                  have e75 := hout 75 rfl
                  have e76 := hout 76 rfl
                  have e77 := hout 77 rfl
                  have e78 := hout 78 rfl
                  have e79 := hout 79 rfl
                  have e80 := hout 80 rfl
                  have e81 := hout 81 rfl
                  have e82 := hout 82 rfl
                  have e83 := hout 83 rfl
                  have e84 := hout 84 rfl
                  have e94 := hout 94 rfl
                  have e95 := hout 95 rfl
                  have e96 := hout 96 rfl
                  have e97 := hout 97 rfl
                  have e98 := hout 98 rfl
                  have e99 := hout 99 rfl
                  have e100 := hout 100 rfl
                  have e101 := hout 101 rfl
                  have e102 := hout 102 rfl
                  have e103 := hout 103 rfl
                  have e104 := hout 104 rfl
                  have e105 := hout 105 rfl
                  have e106 := hout 106 rfl
                  have e107 := hout 107 rfl
                  have e108 := hout 108 rfl
                  have e109 := hout 109 rfl
                  have e110 := hout 110 rfl
                  have e111 := hout 111 rfl
                  have e112 := hout 112 rfl
                  have e113 := hout 113 rfl
                  have e114 := hout 114 rfl
                  have e115 := hout 115 rfl
                  have e116 := hout 116 rfl
                  simp only [List.getElem?_toArray, List.getElem?_cons_succ, List.getElem?_cons_zero] at e0 e1 e2 e3 e4 e5 e6 e7 e8 e9 e10 e11 e12 e13 e14 e15 e16 e17 e18 e19 e20 e21 e22 e23 e24 e25 e26 e27 e28 e29 e30 e31 e32 e33 e34 e35 e36 e37 e38 e39 e40 e41 e42 e43 e44 e45 e46 e47 e48 e49 e50 e51 e52 e53 e54 e55 e56 e57 e58 e59 e60 e61 e62 e63 e64 e65 e66 e67 e68 e69 e70 e71 e72 e73 e74 e75 e76 e77 e78 e79 e80 e81 e82 e83 e84 e94 e95 e96 e97 e98 e99 e100 e101 e102 e103 e104 e105 e106 e107 e108 e109 e110 e111 e112 e113 e114 e115 e116
                  obtain ⟨tm, df⟩ := a'
                  simp only at hd hs h92 h86 h87 e0 e1 e2 e3 e4 e5 e6 e7 e8 e9 e10 e11 e12 e13 e14 e15 e16 e17 e18 e19 e20 e21 e22 e23 e24 e25 e26 e27 e28 e29 e30 e31 e32 e33 e34 e35 e36 e37 e38 e39 e40 e41 e42 e43 e44 e45 e46 e47 e48 e49 e50 e51 e52 e53 e54 e55 e56 e57 e58 e59 e60 e61 e62 e63 e64 e65 e66 e67 e68 e69 e70 e71 e72 e73 e74 e75 e76 e77 e78 e79 e80 e81 e82 e83 e84 e94 e95 e96 e97 e98 e99 e100 e101 e102 e103 e104 e105 e106 e107 e108 e109 e110 e111 e112 e113 e114 e115 e116
                  have e := F31b_lit tm hs
                  simp only [h86, h87, e0, e1, e2, e3, e4, e5, e6, e7, e8, e9, e10, e11, e12, e13, e14, e15, e16, e17, e18, e19, e20, e21, e22, e23, e24, e25, e26, e27, e28, e29, e30, e31, e32, e33, e34, e35, e36, e37, e38, e39, e40, e41, e42, e43, e44, e45, e46, e47, e48, e49, e50, e51, e52, e53, e54, e55, e56, e57, e58, e59, e60, e61, e62, e63, e64, e65, e66, e67, e68, e69, e70, e71, e72, e73, e74, e75, e76, e77, e78, e79, e80, e81, e82, e83, e84, e94, e95, e96, e97, e98, e99, e100, e101, e102, e103, e104, e105, e106, e107, e108, e109, e110, e111, e112, e113, e114, e115, e116, Option.getD_some] at e
                  clear hf hout hs
                  rw [e, hd]
                  clear e hd h86 h87 e0 e1 e2 e3 e4 e5 e6 e7 e8 e9 e10 e11 e12 e13 e14 e15 e16 e17 e18 e19 e20 e21 e22 e23 e24 e25 e26 e27 e28 e29 e30 e31 e32 e33 e34 e35 e36 e37 e38 e39 e40 e41 e42 e43 e44 e45 e46 e47 e48 e49 e50 e51 e52 e53 e54 e55 e56 e57 e58 e59 e60 e61 e62 e63 e64 e65 e66 e67 e68 e69 e70 e71 e72 e73 e74 e75 e76 e77 e78 e79 e80 e81 e82 e83 e84 e94 e95 e96 e97 e98 e99 e100 e101 e102 e103 e104 e105 e106 e107 e108 e109 e110 e111 e112 e113 e114 e115 e116
                  generalize tm[92]?.getD undef = u92x at h92 ⊢
                  generalize tm[85]?.getD undef = u85x, tm[88]?.getD undef = u88x, tm[89]?.getD undef = u89x, tm[90]?.getD undef = u90x, tm[91]?.getD undef = u91x, tm[93]?.getD undef = u93x
                  obtain ⟨A9, c9, l9, rfl, hl9, hv9⟩ := h92
                  have hrow9 := Lib.hid (hrow.out.kept hw)
                  have hX9 := Lib.hid (hX.out.below hw hX.out.lt)
                  have hZ9 := Lib.hid (hZ.out.below hw hZ.out.lt)
                  have hN9 := Lib.hid (hN.out.below hw hN.out.lt)
                  have hb9 : Hid (Below w.heap.size w w9) := hb.out.trans (hw.mono hb.out.size)
                  have hE9 : Hid (∀ s ∈ T, SmAt w9 (fun b => ((Q b ∧ b < w.heap.size) ∨ w.heap.size + 2 ≤ b) ∧ b ≠ g ∧ b ≠ g9) s) := fun s hs => (hE.out s hs).more hw
                  have hLR9 := Lib.hid (hLR.out.more hw)
                  have hgX : Hid (g < wr.heap.size ∧ g9 < wr.heap.size) := ⟨(hrow.out.grown_base hTn.out.symm).2, hN.out.lt⟩
                  have hwr2 : Hid (w.heap.size + 2 ≤ wr.heap.size) := hZ.out.lt
                  replace hl9 := Lib.hid hl9
                  replace hv9 := Lib.hid hv9
                  clear hw hcell hcl hrow hX hZ hN hb hE hLR
                  obtain ⟨q0, q1, q2, q3⟩ := cells4 (w9) (g9) (Value.int .i64 (pj : Int)) (Value.int .i64 view) (Value.int .i64 commit) (Value.slice (some ⟨g, 0, none⟩) n cap) (hN9.out)
                  obtain ⟨c5, c6, c7⟩ := (show w9.cell? ⟨g, k * 3, none⟩ = some (Value.bool true) ∧ w9.cell? ⟨g, k * 3 + 1, none⟩ = some (Value.int .i64 xv) ∧ w9.cell? ⟨g, k * 3 + 2, none⟩ = some (Value.slice xA xn xc) from by
                    refine ⟨?_, ?_, ?_⟩
                    · have := hrow9.out.cellAt hTn.out.symm (k := k) hkT (j := 0) (by decide); rw [hxe.out] at this; exact this
                    · have := hrow9.out.cellAt hTn.out.symm (k := k) hkT (j := 1) (by decide); rw [hxe.out] at this; exact this
                    · have := hrow9.out.cellAt hTn.out.symm (k := k) hkT (j := 2) (by decide); rw [hxe.out] at this; exact this)
                  have z5 : w9.frozen? ⟨g, k * 3, none⟩ = false := hrow9.out.frozenAt hTn.out.symm _
                  have z6 : w9.frozen? ⟨g, k * 3 + 1, none⟩ = false := hrow9.out.frozenAt hTn.out.symm _
                  have z7 : w9.frozen? ⟨g, k * 3 + 2, none⟩ = false := hrow9.out.frozenAt hTn.out.symm _
                  have hst := hrow9.out.store hTn.out.symm (k := k) hkT (⟨true, view, A9, ln, c9, l9⟩ : Sm)
                  have hrow3 : Hid (LOwn svC 3 47 (((w9.setCell ⟨g, k * 3, none⟩ (Value.bool true)).setCell ⟨g, k * 3 + 1, none⟩ (Value.int .i64 view)).setCell ⟨g, k * 3 + 2, none⟩ (Value.slice A9 ln c9)) (w.heap.size + 2) (.slice (some ⟨g, 0, none⟩) n cap) (T.set k (⟨true, view, A9, ln, c9, l9⟩ : Sm))) := hst.1
                  have hg3 : Hid (w9.grownBy (((w9.setCell ⟨g, k * 3, none⟩ (Value.bool true)).setCell ⟨g, k * 3 + 1, none⟩ (Value.int .i64 view)).setCell ⟨g, k * 3 + 2, none⟩ (Value.slice A9 ln c9)) (some g)) := hst.2
                  have hE3 : Hid (∀ s ∈ T.set k (⟨true, view, A9, ln, c9, l9⟩ : Sm), SmAt (((w9.setCell ⟨g, k * 3, none⟩ (Value.bool true)).setCell ⟨g, k * 3 + 1, none⟩ (Value.int .i64 view)).setCell ⟨g, k * 3 + 2, none⟩ (Value.slice A9 ln c9)) (fun b => ((Q b ∧ b < w.heap.size) ∨ w.heap.size + 2 ≤ b) ∧ b ≠ g ∧ b ≠ g9) s) := fun s hs => by
                    rcases List.mem_or_eq_of_mem_set hs with hs | rfl
                    · exact (hE9.out s hs).st hg3.out (fun b hb e => by injection e with e; exact hb.2.1 e)
                    · show LogAt _ (fun b => ((Q b ∧ b < w.heap.size) ∨ w.heap.size + 2 ≤ b) ∧ b ≠ g ∧ b ≠ g9) _ _ _ _
                      have h1 := hgX.out
                      have h2 := hwr2.out
                      refine LogAt.imp (LogAt.st hl9.out hg3.out (fun b hb e => ?_)) (fun b hb => ⟨Or.inr (by omega), by omega, by omega⟩)
                      injection e with e; omega
                  have hU3 : (T.set k (⟨true, view, A9, ln, c9, l9⟩ : Sm)).map Sm.val = (T.map Sm.val).set k ⟨true, view, nl⟩ := by
                    rw [List.map_set]
                    show _ = _
                    congr 1
                    show Sv.mk true view (l9.map Em.val) = _
                    rw [hv9.out]
                  have hX3 := Lib.hid (hX9.out.grown hg3.out (by intro e; injection e with e; have := hg9w.out; have := hgg.out; omega))
                  have hZ3 := Lib.hid (hZ9.out.grown hg3.out (by intro e; injection e with e; have := hg9w.out; have := hgg.out; omega))
                  have hN3 := Lib.hid (hN9.out.grown hg3.out (by intro e; injection e with e; have := hg9w.out; have := hgg.out; omega))
                  have hLR3 : Hid (LogR (w.heap.size + 2) L8 (.slice lA ln lc) (((w9.setCell ⟨g, k * 3, none⟩ (Value.bool true)).setCell ⟨g, k * 3 + 1, none⟩ (Value.int .i64 view)).setCell ⟨g, k * 3 + 2, none⟩ (Value.slice A9 ln c9))) := hLR9.out.row hrow9.out (by decide) (by decide) hg3.out
                  have hb3 := Lib.hid (hb9.out.grown hg3.out hb9.out.size (fun g8 e8 => by injection e8 with e8; have := hg9w.out; have := hgg.out; omega))
                  have hl3 : Hid ((T.set k (⟨true, view, A9, ln, c9, l9⟩ : Sm)).length = n) := by show _ = _; rw [List.length_set]; exact hTn.out
                  have hR3 : Hid (R = (((T.set k (⟨true, view, A9, ln, c9, l9⟩ : Sm)).map Sm.val).take (k + 1) ++ (updS view nl reach (pj : Int) (((T.set k (⟨true, view, A9, ln, c9, l9⟩ : Sm)).map Sm.val).drop (k + 1)) (k + 1) ((h + 1 : Nat) : Int)).1, (updS view nl reach (pj : Int) (((T.set k (⟨true, view, A9, ln, c9, l9⟩ : Sm)).map Sm.val).drop (k + 1)) (k + 1) ((h + 1 : Nat) : Int)).2)) := by
                    show _ = _
                    rw [hU3]
                    exact upd_step view nl reach (pj : Int) _ k h _ hUx.out R hRk.out _ _ (by rw [if_neg (by omega), if_pos ⟨rfl, hre.out⟩]; rfl)
                  have hT3 : Hid (((T.set k (⟨true, view, A9, ln, c9, l9⟩ : Sm)).map Sm.val)[pj]? = some ⟨pu, pv, nl⟩) := by show _ = _; rw [hU3, List.getElem?_set_ne hkp]; exact hTp.out
                  clear hU3 hst hRk hTp hE9 hrow9 hX9 hZ9 hN9 hLR9 hb9 hl9
                  go_wp2_with fail
                  go_roundw
                  case rel => exact ⟨k + 1, h + 1, T.set k (⟨true, view, A9, ln, c9, l9⟩ : Sm), by omega, by omega, by omega, by go_num, by go_num, hl3.out, hrow3.out, hE3.out, hR3.out, hT3.out, hX3.out, hZ3.out, hN3.out, hLR3.out, hb3.out⟩
                  case measure => simp [intOf]; omega
              · have q3d : decide ((h : Int) < reach) = false := by simpa using q3
                have hR1 : Hid (R = ((T.map Sm.val).take (k + 1) ++ (updS view nl reach (pj : Int) ((T.map Sm.val).drop (k + 1)) (k + 1) (h : Int)).1, (updS view nl reach (pj : Int) ((T.map Sm.val).drop (k + 1)) (k + 1) (h : Int)).2)) := by
                  show _ = _
                  have := upd_step view nl reach (pj : Int) _ k h _ hUx.out R hRk.out (Sm.val ⟨true, xv, xA, xn, xc, xl⟩) (h : Int) (by rw [if_neg (by omega), if_neg (fun hh => hh.2.elim q2 q3)])
                  rw [set_same _ k _ hUx.out] at this
                  exact this
                go_wp2_with fail
                go_roundw
                case rel => exact ⟨k + 1, h, T, by omega, by omega, by omega, by go_num, by go_num, hTn.out, hrow.out, hE.out, hR1.out, hTp.out, hX.out, hZ.out, hN.out, hLR.out, hb.out⟩
                case measure => simp [intOf]; omega
      · obtain rfl : n = k := by omega
        have hRf : Hid (R = (T.map Sm.val, (h : Int))) := by
          show _ = _
          rw [hRk.out, List.take_of_length_le (by rw [List.length_map, hTn.out]; exact Nat.le_refl _), List.drop_eq_nil_of_le (by rw [List.length_map, hTn.out]; exact Nat.le_refl _)]
          rw [show updS view nl reach (pj : Int) [] n (h : Int) = ([], (h : Int)) from rfl, List.append_nil]
        have hFr : Hid (r = if majN n h then (⟨(pj : Int), view, nl.length, T.map Sm.val⟩, (pn : Int), 0) else (⟨-1, view, commit, (T.map Sm.val).set pj ⟨false, pv, nl⟩⟩, 0, 18)) := by
          show _ = _
          rw [hr2.out, hRf.out]
          rfl
        clear hRf hRk
        have hpT : pj < T.length := by rw [hTn.out]; exact hpn
        obtain ⟨q0, q1, q2, q3⟩ := cells4 (wr) (g9) (Value.int .i64 (pj : Int)) (Value.int .i64 view) (Value.int .i64 commit) (Value.slice (some ⟨g, 0, none⟩) n cap) (hN.out)
        by_cases hmj2 : n < 2 * h
        · have hmji : (n : Int) < 2 * (h : Int) := by omega
          have hmjd : decide ((n : Int) < 2 * (h : Int)) = true := by simp; omega
          have hF : Hid (r = (⟨(pj : Int), view, nl.length, T.map Sm.val⟩, (pn : Int), 0)) := by show _ = _; rw [hFr.out, if_pos ((majN_iff _ _).2 hmj2)]
          clear hFr
          have hgA : Hid (wr.grownBy (wr.setCell ⟨g9, 2, none⟩ (Value.int .i64 (ln : Int))) (some g9)) := only_set (World.grownBy.refl _ _) _ _
          have hNA := Lib.hid (hN.out.set_ 2 (Value.int .i64 (ln : Int)))
          have hZA := Lib.hid (hZ.out.grown hgA.out (by intro e; injection e with e; have := hg9w.out; omega))
          have hbA := Lib.hid (below_set hb.out (show w.heap.size ≤ g9 by have := hg9w.out; omega) 2 (Value.int .i64 (ln : Int)))
          have hrowA := Lib.hid (hrow.out.grownO hgA.out (.inr (by intro e; simp [Value.ownBlock] at e; have := hgg.out; omega)))
          have hEA : Hid (∀ s ∈ T, SmAt (wr.setCell ⟨g9, 2, none⟩ (Value.int .i64 (ln : Int))) (fun b => (Q b ∧ b < w.heap.size) ∨ w.heap.size + 2 ≤ b) s) := fun s hs => ((hE.out s hs).st hgA.out (fun b hb e => by injection e with e; exact hb.2.2 e)).imp (fun b hb => hb.1)
          obtain ⟨q0, q1, q2, q3, x0, x1, x2, x3⟩ := cells4z (wr) (g9) (Value.int .i64 (pj : Int)) (Value.int .i64 view) (Value.int .i64 commit) (Value.slice (some ⟨g, 0, none⟩) n cap) (hN.out)
          obtain ⟨m0, m1, m2, m3⟩ := cells4 ((wr.setCell ⟨g9, 2, none⟩ (Value.int .i64 (ln : Int)))) (g9) (Value.int .i64 (pj : Int)) (Value.int .i64 view) (Value.int .i64 (ln : Int)) (Value.slice (some ⟨g, 0, none⟩) n cap) (hNA.out)
          obtain ⟨u0, u1, u2, u3, y0, y1, y2, y3⟩ := cells4z ((wr.setCell ⟨g9, 2, none⟩ (Value.int .i64 (ln : Int)))) ((w.heap.size + 1)) (Value.int .i64 0) (Value.int .i64 0) (Value.int .i64 0) (Value.slice none 0 0) (hZA.out)
          go_wp2_with fail
          (try simp only [Exit.inBlock, Exit.then])
          have hBF := cl_set4 hZA.out (Value.int .i64 (pj : Int)) (Value.int .i64 view) (Value.int .i64 (ln : Int)) (Value.slice (some ⟨g, 0, none⟩) n cap)
          have hbF := below_set4 hbA.out (Nat.le_succ _) (Value.int .i64 (pj : Int)) (Value.int .i64 view) (Value.int .i64 (ln : Int)) (Value.slice (some ⟨g, 0, none⟩) n cap)
          have hgF := grown_set4 ((wr.setCell ⟨g9, 2, none⟩ (Value.int .i64 (ln : Int)))) (w.heap.size + 1) (Value.int .i64 (pj : Int)) (Value.int .i64 view) (Value.int .i64 (ln : Int)) (Value.slice (some ⟨g, 0, none⟩) n cap)
          refine bodyPost_ret (v := .tuple #[.agg #[Value.int .i64 (pj : Int), Value.int .i64 view, Value.int .i64 (ln : Int), Value.slice (some ⟨g, 0, none⟩) n cap], .int .i64 (pn : Int), .int .i64 0]) ?_ rfl ?_
          · refine (res3 (fn := Try.f31) (p := 6) (u := 7) (v := 8) (ty := 24) rfl _ _ (w.heap.size + 1) 24 _ (0, 0) _ ?_ hBF Try.underlying24 rfl (by kernel_rfl)).trans ?_
            · rfl
            · rfl
          clear hBF
          generalize (((((wr.setCell ⟨g9, 2, none⟩ (Value.int .i64 (ln : Int))).setCell ⟨(w.heap.size + 1), 0, none⟩ (Value.int .i64 (pj : Int))).setCell ⟨(w.heap.size + 1), 1, none⟩ (Value.int .i64 view)).setCell ⟨(w.heap.size + 1), 2, none⟩ (Value.int .i64 (ln : Int))).setCell ⟨(w.heap.size + 1), 3, none⟩ (Value.slice (some ⟨g, 0, none⟩) n cap)) = wF at *
          have hC := CmAt.of_own (p := (pj : Int)) (v := view) (m := (ln : Int)) (Q := (fun b => (Q b ∧ b < w.heap.size) ∨ w.heap.size + 2 ≤ b)) (hrowA.out.grownO hgF (.inr (by intro e; simp [Value.ownBlock] at e; have := hgg.out; have := hg9w.out; omega))) hTn.out (fun s hs => (hEA.out s hs).st hgF (fun b hb e => by injection e with e; rcases hb with hb | hb <;> omega)) (Or.inr (by have := hgg.out; have := hg9w.out; omega))
          refine ⟨⟨_, by rw [hF.out]; rfl, hC.imp (fun b hb => hb.elim (fun h => Or.inl h.1) (fun h => Or.inr (by omega))), ?_⟩, hbF⟩
          rw [hF.out]
          show Cv.mk _ _ _ _ = Cv.mk _ _ _ _
          rw [hnll.out]
        · have hmji : ¬ (n : Int) < 2 * (h : Int) := by omega
          have hmjd : decide ((n : Int) < 2 * (h : Int)) = false := by simp; omega
          have hF : Hid (r = (⟨-1, view, commit, (T.map Sm.val).set pj ⟨false, pv, nl⟩⟩, 0, 18)) := by show _ = _; rw [hFr.out, if_neg (fun h => hmj2 ((majN_iff _ _).1 h))]
          clear hFr
          obtain ⟨p', hp'⟩ : ∃ p', T[pj]? = some p' := ⟨_, List.getElem?_eq_getElem hpT⟩
          have hpv' : p'.val = ⟨pu, pv, nl⟩ := by
            have := hTp.out
            rw [List.getElem?_map, hp'] at this
            injection this
          have hpe : Hid (T[pj] = p') := (List.getElem?_eq_some_iff.1 hp').2
          have hpo' := Lib.hid hp'
          have hpvH := Lib.hid hpv'
          clear hp' hpv'
          obtain ⟨qu, qv, qA, qn, qc, ql⟩ := p'
          have e0 : wr.cell? ⟨g, pj * 3, none⟩ = some (Value.bool qu) := by
            have := hrow.out.cellAt hTn.out.symm (k := pj) hpT (j := 0) (by decide); rw [hpe.out] at this; exact this
          have hrowA := (hrow.out.storep hTn.out.symm (k := pj) hpT (⟨false, qv, qA, qn, qc, ql⟩ : Sm) 0 [Value.bool false] (by simp) (row_set hpT ⟨qu, qv, qA, qn, qc, ql⟩ _ 0 _ (by decide) hpe.out (by
            intro j hj h1
            have : j = 1 ∨ j = 2 := by omega
            rcases this with rfl | rfl <;> rfl) rfl)).1
          replace hrowA : Hid (LOwn svC 3 47 (wr.setCell ⟨g, pj * 3, none⟩ (Value.bool false)) (w.heap.size + 2) (.slice (some ⟨g, 0, none⟩) n cap) (T.set pj (⟨false, qv, qA, qn, qc, ql⟩ : Sm))) := hrowA
          have z0 : wr.frozen? ⟨g, pj * 3, none⟩ = false := hrow.out.frozenAt hTn.out.symm _
          have hgA : Hid (wr.grownBy (wr.setCell ⟨g, pj * 3, none⟩ (Value.bool false)) (some g)) := only_set (World.grownBy.refl _ _) _ _
          have hgB : Hid ((wr.setCell ⟨g, pj * 3, none⟩ (Value.bool false)).grownBy ((wr.setCell ⟨g, pj * 3, none⟩ (Value.bool false)).setCell ⟨g9, 0, none⟩ (Value.int .i64 (-1))) (some g9)) := only_set (World.grownBy.refl _ _) _ _
          have hXA := Lib.hid (hX.out.grown hgA.out (by intro e; injection e with e; have := hg9w.out; have := hgg.out; omega))
          have hNA := Lib.hid (hN.out.grown hgA.out (by intro e; injection e with e; have := hg9w.out; have := hgg.out; omega))
          have hNB := Lib.hid (hNA.out.set_ 0 (Value.int .i64 (-1)))
          have hZA := Lib.hid ((hZ.out.grown hgA.out (by intro e; injection e with e; have := hg9w.out; have := hgg.out; omega)).grown hgB.out (by intro e; injection e with e; have := hg9w.out; omega))
          have hbA := Lib.hid (below_set (hb.out.grown hgA.out hb.out.size (fun g8 e8 => by injection e8 with e8; have := hg9w.out; have := hgg.out; omega)) (show w.heap.size ≤ g9 by have := hg9w.out; omega) 0 (Value.int .i64 (-1)))
          have hrowB := Lib.hid (hrowA.out.grownO hgB.out (.inr (by intro e; simp [Value.ownBlock] at e; have := hgg.out; omega)))
          have hEA : Hid (∀ s ∈ T.set pj (⟨false, qv, qA, qn, qc, ql⟩ : Sm), SmAt ((wr.setCell ⟨g, pj * 3, none⟩ (Value.bool false)).setCell ⟨g9, 0, none⟩ (Value.int .i64 (-1))) (fun b => (Q b ∧ b < w.heap.size) ∨ w.heap.size + 2 ≤ b) s) := fun s hs => by
            have h8 : ∀ t ∈ T, SmAt ((wr.setCell ⟨g, pj * 3, none⟩ (Value.bool false)).setCell ⟨g9, 0, none⟩ (Value.int .i64 (-1))) (fun b => (Q b ∧ b < w.heap.size) ∨ w.heap.size + 2 ≤ b) t := fun t ht => (((hE.out t ht).st hgA.out (fun b hb e => by injection e with e; exact hb.2.1 e)).st hgB.out (fun b hb e => by injection e with e; exact hb.2.2 e)).imp (fun b hb => hb.1)
            rcases List.mem_or_eq_of_mem_set hs with hs | rfl
            · exact h8 s hs
            · exact h8 ⟨qu, qv, qA, qn, qc, ql⟩ (List.mem_of_getElem? hpo'.out)
          obtain ⟨k0, k1, k2, k3⟩ := cells4 (wr) (w.heap.size) (Value.int .i64 (pj : Int)) (Value.int .i64 view) (Value.int .i64 commit) (Value.slice (some ad) n c) (hX.out)
          obtain ⟨q0, q1, q2, q3, x0, x1, x2, x3⟩ := cells4z ((wr.setCell ⟨g, pj * 3, none⟩ (Value.bool false))) (g9) (Value.int .i64 (pj : Int)) (Value.int .i64 view) (Value.int .i64 commit) (Value.slice (some ⟨g, 0, none⟩) n cap) (hNA.out)
          obtain ⟨m0, m1, m2, m3⟩ := cells4 (((wr.setCell ⟨g, pj * 3, none⟩ (Value.bool false)).setCell ⟨g9, 0, none⟩ (Value.int .i64 (-1)))) (g9) (Value.int .i64 (-1)) (Value.int .i64 view) (Value.int .i64 commit) (Value.slice (some ⟨g, 0, none⟩) n cap) (hNB.out)
          obtain ⟨u0, u1, u2, u3, y0, y1, y2, y3⟩ := cells4z (((wr.setCell ⟨g, pj * 3, none⟩ (Value.bool false)).setCell ⟨g9, 0, none⟩ (Value.int .i64 (-1)))) ((w.heap.size + 1)) (Value.int .i64 0) (Value.int .i64 0) (Value.int .i64 0) (Value.slice none 0 0) (hZA.out)
          go_wp2_with fail
          (try simp only [Exit.inBlock, Exit.then])
          have hBF := cl_set4 hZA.out (Value.int .i64 (-1)) (Value.int .i64 view) (Value.int .i64 commit) (Value.slice (some ⟨g, 0, none⟩) n cap)
          have hbF := below_set4 hbA.out (Nat.le_succ _) (Value.int .i64 (-1)) (Value.int .i64 view) (Value.int .i64 commit) (Value.slice (some ⟨g, 0, none⟩) n cap)
          have hgF := grown_set4 (((wr.setCell ⟨g, pj * 3, none⟩ (Value.bool false)).setCell ⟨g9, 0, none⟩ (Value.int .i64 (-1)))) (w.heap.size + 1) (Value.int .i64 (-1)) (Value.int .i64 view) (Value.int .i64 commit) (Value.slice (some ⟨g, 0, none⟩) n cap)
          refine bodyPost_ret (v := .tuple #[.agg #[Value.int .i64 (-1), Value.int .i64 view, Value.int .i64 commit, Value.slice (some ⟨g, 0, none⟩) n cap], .int .i64 0, .int .i64 18]) ?_ rfl ?_
          · refine (res3 (fn := Try.f31) (p := 6) (u := 7) (v := 8) (ty := 24) rfl _ _ (w.heap.size + 1) 24 _ (0, 0) _ ?_ hBF Try.underlying24 rfl (by kernel_rfl)).trans ?_
            · rfl
            · rfl
          clear hBF
          generalize ((((((wr.setCell ⟨g, pj * 3, none⟩ (Value.bool false)).setCell ⟨g9, 0, none⟩ (Value.int .i64 (-1))).setCell ⟨(w.heap.size + 1), 0, none⟩ (Value.int .i64 (-1))).setCell ⟨(w.heap.size + 1), 1, none⟩ (Value.int .i64 view)).setCell ⟨(w.heap.size + 1), 2, none⟩ (Value.int .i64 commit)).setCell ⟨(w.heap.size + 1), 3, none⟩ (Value.slice (some ⟨g, 0, none⟩) n cap)) = wF at *
          have hC := CmAt.of_own (p := -1) (v := view) (m := commit) (Q := (fun b => (Q b ∧ b < w.heap.size) ∨ w.heap.size + 2 ≤ b)) (hrowB.out.grownO hgF (.inr (by intro e; simp [Value.ownBlock] at e; have := hgg.out; have := hg9w.out; omega))) (by rw [List.length_set]; exact hTn.out) (fun s hs => (hEA.out s hs).st hgF (fun b hb e => by injection e with e; rcases hb with hb | hb <;> omega)) (Or.inr (by have := hgg.out; have := hg9w.out; omega))
          refine ⟨⟨_, by rw [hF.out]; rfl, hC.imp (fun b hb => hb.elim (fun h => Or.inl h.1) (fun h => Or.inr (by omega))), ?_⟩, hbF⟩
          rw [hF.out]
          show Cv.mk (-1) view commit ((T.set pj (⟨false, qv, qA, qn, qc, ql⟩ : Sm)).map Sm.val) = Cv.mk _ _ _ _
          rw [List.map_set]
          show Cv.mk (-1) view commit ((T.map Sm.val).set pj (Sv.mk false qv (ql.map Em.val))) = _
          have e1 : qv = pv := congrArg Sv.view hpvH.out
          have e2 : ql.map Em.val = nl := congrArg Sv.log hpvH.out
          rw [e1, e2]
end Go.Proofs.Ytiapeenfggjpnaa
