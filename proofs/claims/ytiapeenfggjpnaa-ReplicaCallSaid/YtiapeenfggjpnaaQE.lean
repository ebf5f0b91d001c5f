/- Replicated servers: the law ReplicaCall, walked. -/
import Derived.Test.YtiapeenfggjpnaaQD
import Derived.Test.YtiapeenfggjpnaaPT
import Derived.Test.YtiapeenfggjpnaaPV
set_option linter.unusedVariables false
set_option linter.unusedSimpArgs false
namespace Go.Proofs.Ytiapeenfggjpnaa
open Go.RowKit
/-- a row of data -/
def ComT (ds : List (List UInt8)) (v : Value) (w : World) : Prop := ∃ A n c C, v = .slice A n c ∧ LAt sC 1 w w.heap.size A n C ∧ (∀ b ∈ C, BsAt w b) ∧ C.map (·.d) = ds
theorem ComT.more {ds : List (List UInt8)} {v : Value} {w w' : World} (h : ComT ds v w) (hb : Below w.heap.size w w') : ComT ds v w' := by
  obtain ⟨A, n, c, C, h0, h1, h2, h3⟩ := h
  exact ⟨A, n, c, C, h0, h1.more hb, fun b hx => (h2 b hx).more hb, h3⟩
theorem ComRes.row {w w' : World} {ds : List (List UInt8)} {e : Ending} (h : ComRes w w' ds e) : ∃ v, e = .returned v ∧ ComT ds v w' := by
  obtain ⟨A, n, c, C, h0, h1, -, -, h4, h5⟩ := h
  exact ⟨_, h0, A, n, c, C, rfl, h1, fun b hb => (h4 b hb).bs, h5⟩
theorem RCom.row {w' : World} {ds : List (List UInt8)} {e : Ending} (h : RCom w' ds e) : ∃ v, e = .returned v ∧ ComT ds v w' := by
  obtain ⟨A, n, c, C, h0, h1, h4, h5⟩ := h
  exact ⟨_, h0, A, n, c, C, rfl, h1, h4, h5⟩
theorem updS_mem (V : Int) (nl : List En) (r p : Int) : ∀ (l : List Sv) (i : Nat) (h : Int), (updS V nl r p l i h).1.length = l.length ∧ ∀ t ∈ (updS V nl r p l i h).1, t ∈ l ∨ t.log = nl
  | [], i, h => ⟨rfl, fun t ht => .inl ht⟩
  | s :: q, i, h => by
    have key : ∀ (x : Sv) (h' : Int), (x = s ∨ x.log = nl) → (x :: (updS V nl r p q (i + 1) h').1).length = (s :: q).length ∧ ∀ t ∈ x :: (updS V nl r p q (i + 1) h').1, t ∈ s :: q ∨ t.log = nl := fun x h' hx => by
      obtain ⟨h1, h2⟩ := updS_mem V nl r p q (i + 1) h'
      refine ⟨by rw [List.length_cons, List.length_cons, h1], fun t ht => ?_⟩
      rcases List.mem_cons.1 ht with rfl | ht
      · rcases hx with rfl | hx
        · exact .inl List.mem_cons_self
        · exact .inr hx
      · rcases h2 t ht with h3 | h3
        · exact .inl (List.mem_cons_of_mem _ h3)
        · exact .inr h3
    by_cases c1 : (i : Int) = p
    · rw [show updS V nl r p (s :: q) i h = (s :: (updS V nl r p q (i + 1) h).1, (updS V nl r p q (i + 1) h).2) by show (if (i : Int) = p then _ else _) = _; rw [if_pos c1]]
      exact key s h (.inl rfl)
    · by_cases c2 : s.up = true ∧ (r < 1 ∨ h < r)
      · rw [show updS V nl r p (s :: q) i h = (⟨s.up, V, nl⟩ :: (updS V nl r p q (i + 1) (h + 1)).1, (updS V nl r p q (i + 1) (h + 1)).2) by show (if (i : Int) = p then _ else if _ then _ else _) = _; rw [if_neg c1, if_pos c2]]
        exact key _ _ (.inr rfl)
      · rw [show updS V nl r p (s :: q) i h = (s :: (updS V nl r p q (i + 1) h).1, (updS V nl r p q (i + 1) h).2) by show (if (i : Int) = p then _ else if _ then _ else _) = _; rw [if_neg c1, if_neg c2]]
        exact key s h (.inl rfl)
/-- what a call leaves of the sizes -/
def Sized (L : Nat) (c c' : Cv) : Prop := c'.servers.length = c.servers.length ∧ ∀ t ∈ c'.servers, t.log.length ≤ L
theorem submit_sized {c : Cv} {L : Nat} (h : ∀ s ∈ c.servers, s.log.length ≤ L) (d : List UInt8) (reach : Int) : Sized (L + 1) c (submitC c d reach).1 := by
  have hself : Sized (L + 1) c c := ⟨rfl, fun t ht => Nat.le_succ_of_le (h t ht)⟩
  unfold submitC
  cases hp : primOf c with
  | none => exact hself
  | some p =>
    dsimp only
    have hpl := h p (primOf_mem hp)
    split
    · exact hself
    · split
      · exact hself
      · obtain ⟨nl, hnl⟩ : ∃ nl, nl = p.log ++ [(⟨c.view, d⟩ : En)] := ⟨_, rfl⟩
        rw [← hnl]
        have hnll : nl.length ≤ L + 1 := by rw [hnl, List.length_append]; simp only [List.length_cons, List.length_nil]; omega
        obtain ⟨h1, h2⟩ := updS_mem c.view nl reach c.primary (c.servers.set c.primary.toNat ⟨p.up, p.view, nl⟩) 0 1
        rw [List.length_set] at h1
        have h3 : ∀ t ∈ (updS c.view nl reach c.primary (c.servers.set c.primary.toNat ⟨p.up, p.view, nl⟩) 0 1).1, t.log.length ≤ L + 1 := fun t ht => by
          rcases h2 t ht with h4 | h4
          · rcases List.mem_or_eq_of_mem_set h4 with h5 | rfl
            · exact Nat.le_succ_of_le (h t h5)
            · exact hnll
          · rw [h4]; exact hnll
        split
        · exact ⟨h1, h3⟩
        · refine ⟨by show (List.set _ _ _).length = _; rw [List.length_set]; exact h1, fun t ht => ?_⟩
          rcases List.mem_or_eq_of_mem_set ht with h5 | rfl
          · exact h3 t h5
          · exact hnll
theorem setUp_sized {l : List Sv} {L : Nat} (h : ∀ s ∈ l, s.log.length ≤ L) (i : Nat) (b : Bool) : (setUp l i b).length = l.length ∧ ∀ t ∈ setUp l i b, t.log.length ≤ L := by
  unfold setUp
  split
  · exact ⟨rfl, h⟩
  · rename_i s hs
    refine ⟨List.length_set .., fun t ht => ?_⟩
    rcases List.mem_or_eq_of_mem_set ht with h5 | rfl
    · exact h t h5
    · exact h s (List.mem_of_getElem? hs)
theorem call_sized {c : Cv} {L : Nat} (h : ∀ s ∈ c.servers, s.log.length ≤ L) (x : Oc) : Sized (L + 1) c (callC c x).1 := by
  have hself : Sized (L + 1) c c := ⟨rfl, fun t ht => Nat.le_succ_of_le (h t ht)⟩
  have hset : ∀ (l : List Sv) p v m, (l.length = c.servers.length ∧ ∀ t ∈ l, t.log.length ≤ L) → Sized (L + 1) c ⟨p, v, m, l⟩ := fun l p v m hl => ⟨hl.1, fun t ht => Nat.le_succ_of_le (hl.2 t ht)⟩
  unfold callC
  split
  · exact submit_sized h _ _
  · split
    · unfold crashC
      split
      · exact hself
      · split
        · exact hself
        · split
          · exact hself
          · exact hset _ _ _ _ (setUp_sized h _ _)
    · split
      · unfold restartC
        split
        · exact hself
        · split
          · exact hself
          · split
            · exact hself
            · exact hset _ _ _ _ (setUp_sized h _ _)
      · split
        · unfold tickC
          split
          · exact hself
          · cases hp : primOf (elected c) with
            | none => exact hself
            | some p =>
              have hpm : p ∈ c.servers := by
                have := primOf_mem hp
                unfold elected at this
                split at this <;> exact this
              refine hset _ _ _ _ ⟨by unfold bringS; rw [List.length_map], fun t ht => ?_⟩
              unfold bringS at ht
              obtain ⟨s, hs, rfl⟩ := List.mem_map.1 ht
              split
              · exact h p hpm
              · exact h s hs
        · exact hself
theorem serversE_all {V : Int} : ∀ {l : List Sv}, serversE V l = 0 → ∀ s ∈ l, serverE V s = 0
  | [], _, s, hs => by cases hs
  | x :: r, h, s, hs => by
    have h : (if serverE V x ≠ 0 then serverE V x else serversE V r) = 0 := h
    by_cases hx : serverE V x = 0
    · rw [if_neg (fun e => e hx)] at h
      rcases List.mem_cons.1 hs with rfl | hs
      · exact hx
      · exact serversE_all h s hs
    · rw [if_pos hx] at h
      exact absurd h hx
theorem logE_all {V : Int} : ∀ (l : List En) (b : Bool) (p : Int), logE V l b p = 0 → ∀ e ∈ l, e.d.length ≤ 8198
  | [], _, _, _, e, he => by cases he
  | x :: r, b, p, h, e, he => by
    rw [logE_cons, entE_zero] at h
    rcases List.mem_cons.1 he with rfl | he
    · exact h.1.2.2.2
    · exact logE_all r _ _ h.2 e he
/-- what a valid cluster keeps to -/
theorem valid_parts {c : Cv} (h : validC c = 0) : (1 ≤ c.servers.length ∧ c.servers.length ≤ 7 ∧ c.primary < c.servers.length ∧ 1 ≤ c.view ∧ c.view ≤ 2147483647) ∧ (∀ s ∈ c.servers, s.log.length ≤ 4096 ∧ ∀ e ∈ s.log, e.d.length ≤ 8198) ∧ (∀ p, primOf c = some p → p.up = true) ∧ 0 ≤ c.commit ∧ c.commit ≤ (bestLog c).length := by
  unfold validC at h
  by_cases h1 : headE c = true
  · rw [if_pos h1] at h; cases h
  · rw [if_neg h1] at h
    by_cases h2 : serversE c.view c.servers = 0
    · rw [if_neg (fun e => e h2)] at h
      by_cases h3 : primE c = true
      · rw [if_pos h3] at h; cases h
      · rw [if_neg h3] at h
        by_cases h4 : c.commit < 0 ∨ ((bestLog c).length : Int) < c.commit
        · rw [if_pos h4] at h; cases h
        · refine ⟨?_, fun s hs => ?_, fun p hp => ?_, by omega, by omega⟩
          · unfold headE at h1
            simp only [Bool.or_eq_true, decide_eq_true_eq] at h1
            omega
          · have h5 := serversE_all h2 s hs
            unfold serverE at h5
            split at h5
            · cases h5
            · split at h5
              · cases h5
              · exact ⟨by omega, logE_all _ _ _ h5⟩
          · unfold primE at h3
            rw [hp] at h3
            simp only [Bool.or_eq_true, Bool.not_eq_true'] at h3
            cases hu : p.up with
            | true => rfl
            | false => exact absurd (.inl (.inl hu)) h3
    · rw [if_pos h2] at h
      exact absurd h h2
def F3c (gx g5 g8 : Nat) (Xv Av Bv : Array Value) (nn ee : Int) (ds : List (List UInt8)) : Tmp → Value → World → Prop
  | 2, v, _ => v = .pointer (some ⟨gx, 0, none⟩)
  | 4, v, _ => v = .bool true
  | 5, v, _ => v = .pointer (some ⟨g5, 0, none⟩)
  | 6, v, _ => v = .int .i64 nn
  | 7, v, _ => v = .int .i64 ee
  | 8, v, _ => v = .pointer (some ⟨g8, 0, none⟩)
  | 9, v, _ => v = .int .i64 nn
  | 10, v, _ => v = .int .i64 ee
  | 39, v, _ => v = .agg Av
  | 40, v, _ => v = .agg Bv
  | 41, v, _ => v = .bool true
  | 42, v, _ => v = .bool true
  | 43, v, _ => v = .int .i64 nn
  | 44, v, _ => v = .int .i64 nn
  | 45, v, _ => v = .bool true
  | 46, v, _ => v = .bool true
  | 47, v, _ => v = .bool true
  | 48, v, _ => v = .int .i64 ee
  | 49, v, _ => v = .int .i64 ee
  | 50, v, _ => v = .bool true
  | 51, v, _ => v = .bool true
  | 52, v, _ => v = .bool true
  | 53, v, _ => v = .agg Xv
  | 54, v, w => ComT ds v w
  | 55, v, _ => v = .agg Xv
  | 56, v, w => ComT ds v w
  | 57, v, _ => v = .bool true
  | 58, v, _ => v = .bool true
  | 59, v, _ => v = .bool true
  | 60, v, _ => v = .bool true
  | 61, v, _ => v = .bool true
  | _, _, _ => True
theorem F3c_more {gx g5 g8 : Nat} {Xv Av Bv : Array Value} {nn ee : Int} {ds : List (List UInt8)} (d t : Tmp) (v : Value) (w w' : World) (hR : Rb w w') (hne : t ≠ d) (hc : ([] : List (Tmp × Tmp)).contains (d, t) = false) (h : F3c gx g5 g8 Xv Av Bv nn ee ds t v w) : F3c gx g5 g8 Xv Av Bv nn ee ds t v w' := by
  unfold F3c at *
  split at h <;> first | exact h | exact ComT.more h hR | exact fun hg => ComT.more (h hg) hR
theorem F3c_lit (tm : Array Value) (hs : tm.size = 62) : tm = #[tm[0]?.getD undef, tm[1]?.getD undef, tm[2]?.getD undef, tm[3]?.getD undef, tm[4]?.getD undef, tm[5]?.getD undef, tm[6]?.getD undef, tm[7]?.getD undef, tm[8]?.getD undef, tm[9]?.getD undef, tm[10]?.getD undef, tm[11]?.getD undef, tm[12]?.getD undef, tm[13]?.getD undef, tm[14]?.getD undef, tm[15]?.getD undef, tm[16]?.getD undef, tm[17]?.getD undef, tm[18]?.getD undef, tm[19]?.getD undef, tm[20]?.getD undef, tm[21]?.getD undef, tm[22]?.getD undef, tm[23]?.getD undef, tm[24]?.getD undef, tm[25]?.getD undef, tm[26]?.getD undef, tm[27]?.getD undef, tm[28]?.getD undef, tm[29]?.getD undef, tm[30]?.getD undef, tm[31]?.getD undef, tm[32]?.getD undef, tm[33]?.getD undef, tm[34]?.getD undef, tm[35]?.getD undef, tm[36]?.getD undef, tm[37]?.getD undef, tm[38]?.getD undef, tm[39]?.getD undef, tm[40]?.getD undef, tm[41]?.getD undef, tm[42]?.getD undef, tm[43]?.getD undef, tm[44]?.getD undef, tm[45]?.getD undef, tm[46]?.getD undef, tm[47]?.getD undef, tm[48]?.getD undef, tm[49]?.getD undef, tm[50]?.getD undef, tm[51]?.getD undef, tm[52]?.getD undef, tm[53]?.getD undef, tm[54]?.getD undef, tm[55]?.getD undef, tm[56]?.getD undef, tm[57]?.getD undef, tm[58]?.getD undef, tm[59]?.getD undef, tm[60]?.getD undef, tm[61]?.getD undef] := lit_arr tm 62 hs
set_option maxRecDepth 100000 in
set_option maxHeartbeats 8000000 in
theorem lawCall (k : Cm) (x : Ox) (w : World) (h : CmAt w anyB k) (hx : OxAt w x) : Calls Try.prog 3 #[clV k, .agg #[Value.int .i64 x.kind, Value.int .i64 x.num, Value.slice x.A x.n x.c]] w fun e w' => e = .returned (.bool true) ∧ Below w.heap.size w w' := by
  have hG0 := Lib.hid (fun w2 (hb : Below w.heap.size w w2) => big_any k w2 (h.more hb))
  have hR0 := Lib.hid (fun w2 (hb : Below w.heap.size w w2) hs => rvalid_any k w2 (h.more hb) hs)
  obtain ⟨E, hE⟩ : ∃ E, E = validC k.val := ⟨_, rfl⟩
  rw [← hE] at hR0
  replace hE := Lib.hid hE
  have hvl := Lib.hid (val_len h)
  replace h := Lib.hid h
  replace hx := Lib.hid hx
  obtain ⟨p0, v0, m0, A0, n0, c0, l0⟩ := k
  obtain ⟨kind, onum, oA, on, oc, od⟩ := x
  obtain rfl : od.length = on := hx.out.1.1.len
  simp only [clV] at *
  have hX0 := Lib.hid ((Blk.new w 24 #[Value.int .i64 p0, Value.int .i64 v0, Value.int .i64 m0, Value.slice A0 n0 c0]).alloc (.cells #[Value.int .i64 kind, Value.int .i64 onum, Value.slice oA od.length oc] 27))
  have hO0 := Blk.new (w.alloc (.cells #[Value.int .i64 p0, Value.int .i64 v0, Value.int .i64 m0, Value.slice A0 n0 c0] 24)) 27 #[Value.int .i64 kind, Value.int .i64 onum, Value.slice oA od.length oc]
  rw [show (w.alloc (.cells #[Value.int .i64 p0, Value.int .i64 v0, Value.int .i64 m0, Value.slice A0 n0 c0] 24)).heap.size = w.heap.size + 1 by simp] at hO0
  replace hO0 := Lib.hid hO0
  have hb0 : Hid (Below w.heap.size w ((w.alloc (.cells #[Value.int .i64 p0, Value.int .i64 v0, Value.int .i64 m0, Value.slice A0 n0 c0] 24)).alloc (.cells #[Value.int .i64 kind, Value.int .i64 onum, Value.slice oA od.length oc] 27))) := (a1 w _).alloc (by simp) _
  obtain ⟨k0, k1, k2, k3⟩ := cells4 (((w.alloc (.cells #[Value.int .i64 p0, Value.int .i64 v0, Value.int .i64 m0, Value.slice A0 n0 c0] 24)).alloc (.cells #[Value.int .i64 kind, Value.int .i64 onum, Value.slice oA od.length oc] 27))) (w.heap.size) (Value.int .i64 p0) (Value.int .i64 v0) (Value.int .i64 m0) (Value.slice A0 n0 c0) (hX0.out)
  go_enter Try.func3, Try.ntmps3
  go_wp2_with fail
  refine (hG0.out _ hb0.out).mono ?_; rintro e w1 ⟨⟨b, rfl, hnb⟩, hq⟩
  have hX := Lib.hid (hX0.out.below hq hX0.out.lt)
  have hO := Lib.hid (hO0.out.below hq hO0.out.lt)
  have hb1 := Lib.hid (hb0.out.trans (hq.mono hb0.out.size))
  clear hq hX0 hO0 hb0 hG0 k0 k1 k2 k3
  cases b with
  | true =>
    clear hnb
    go_wp2_with fail
    refine (ex_any _).mono ?_; rintro e w5 ⟨rfl, hq⟩
    go_wp2_with fail
    go_ret
    exact ⟨rfl, hb1.out.trans (hq.mono hb1.out.size)⟩
  | false =>
  have hnB := Lib.hid (hnb rfl)
  clear hnb
  obtain ⟨k0, k1, k2, k3⟩ := cells4 (w1) (w.heap.size) (Value.int .i64 p0) (Value.int .i64 v0) (Value.int .i64 m0) (Value.slice A0 n0 c0) (hX.out)
  obtain ⟨o0, o1, o2⟩ := cells3 (w1) ((w.heap.size + 1)) (Value.int .i64 kind) (Value.int .i64 onum) (Value.slice oA od.length oc) (hO.out)
  by_cases q0 : 65536 < od.length
  · have q0i : (65536 : Int) < (od.length : Int) := by omega
    have q0d : decide ((65536 : Int) < (od.length : Int)) = true := by simp; omega
    go_wp2_with fail
    refine (ex_any _).mono ?_; rintro e w5 ⟨rfl, hq⟩
    go_wp2_with fail
    go_ret
    exact ⟨rfl, hb1.out.trans (hq.mono hb1.out.size)⟩
  have q0i : ¬ (65536 : Int) < (od.length : Int) := by omega
  have q0d : decide ((65536 : Int) < (od.length : Int)) = false := by simp; omega
  go_wp2_with fail
  refine (hR0.out _ hb1.out (fun s hs => (hnB.out.2 s hs).1)).mono ?_; rintro e wE ⟨rfl, hq⟩
  have hX := Lib.hid (hX.out.below hq hX.out.lt)
  have hO := Lib.hid (hO.out.below hq hO.out.lt)
  have hb1 := Lib.hid (hb1.out.trans (hq.mono hb1.out.size))
  clear hq hR0 k0 k1 k2 k3 o0 o1 o2
  by_cases hE0 : E ≠ 0
  · have hE1 : (E == 0) = false := by simpa using hE0
    go_wp2_with fail
    refine (ex_any _).mono ?_; rintro e w5 ⟨rfl, hq⟩
    go_wp2_with fail
    go_ret
    exact ⟨rfl, hb1.out.trans (hq.mono hb1.out.size)⟩
  replace hE0 : E = 0 := by simpa using hE0
  subst hE0
  obtain ⟨hp1, hp2, hp3, hp4, hp5⟩ := valid_parts hE.out.symm
  have hlen : (Cm.val (⟨p0, v0, m0, A0, n0, c0, l0⟩ : Cm)).servers.length = n0 := hvl.out
  rw [hlen] at hp1
  have hl0 : l0.length = n0 := h.out.len
  have hsm : CmSm2 (⟨p0, v0, m0, A0, n0, c0, l0⟩ : Cm) := by
    refine ⟨hp1.1, hp1.2.1, fun s hs => ?_⟩
    obtain ⟨h1, h2⟩ := hnB.out.2 s hs
    have h3 := (hp2 s.val (List.mem_map_of_mem hs)).2
    have h4 := h2 (fun e he => h3 e.val (List.mem_map_of_mem he))
    exact ⟨h1, by omega⟩
  obtain ⟨cm, hcm⟩ : ∃ cm : Nat, m0 = (cm : Int) := ⟨m0.toNat, by have hp4 : 0 ≤ m0 := hp4; omega⟩
  have hcmb : cm ≤ (bestLog (Cm.val (⟨p0, v0, m0, A0, n0, c0, l0⟩ : Cm))).length := by have hp5 : m0 ≤ _ := hp5; omega
  have hbl : (bestLog (Cm.val (⟨p0, v0, m0, A0, n0, c0, l0⟩ : Cm))).length ≤ 4096 := by
    rcases mem_best (Cm.val (⟨p0, v0, m0, A0, n0, c0, l0⟩ : Cm)) with e | ⟨s, hs, e⟩
    · rw [e]; exact Nat.zero_le _
    · rw [e]; exact (hp2 s hs).1
  obtain ⟨ds, hdse⟩ : ∃ ds, ds = committedC (Cm.val (⟨p0, v0, m0, A0, n0, c0, l0⟩ : Cm)) := ⟨_, rfl⟩
  have hds : Hid (ds.length ≤ 100000) := by
    show _ ≤ _
    rw [hdse]
    unfold committedC
    rw [List.length_map, List.length_take]
    omega
  have hsz := call_sized (c := Cm.val (⟨p0, v0, m0, A0, n0, c0, l0⟩ : Cm)) (L := 4096) (fun s hs => (hp2 s hs).1) (⟨kind, onum, od⟩ : Oc)
  have hcall := fun wz (hz : Below w.heap.size w wz) => call_any (⟨p0, v0, m0, A0, n0, c0, l0⟩ : Cm) ⟨kind, onum, oA, od.length, oc, od⟩ wz (h.out.more hz) hsm (hx.out.more hz) hp1.2.2.1 ⟨hp1.2.2.2.1, hp1.2.2.2.2⟩ hp3
  have hwant := fun wz (hz : Below w.heap.size w wz) => want_any (⟨p0, v0, m0, A0, n0, c0, l0⟩ : Cm) ⟨kind, onum, oA, od.length, oc, od⟩ wz (h.out.more hz) hsm (hx.out.more hz) hp1.2.2.1 ⟨hp1.2.2.2.1, hp1.2.2.2.2⟩ hp3
  have hcom0 := fun wz (hz : Below w.heap.size w wz) => committed_any (⟨p0, v0, m0, A0, n0, c0, l0⟩ : Cm) cm wz (h.out.more hz) hsm hcm hcmb
  have hrcom0 := fun wz (hz : Below w.heap.size w wz) => rcommitted_any (⟨p0, v0, m0, A0, n0, c0, l0⟩ : Cm) cm wz (h.out.more hz) hsm.1 hsm.2.1 (fun s hs => (hsm.2.2 s hs).1) hcm hcmb
  rw [← hdse] at hcom0 hrcom0
  obtain ⟨r, hr⟩ : ∃ r, r = callC (Cm.val (⟨p0, v0, m0, A0, n0, c0, l0⟩ : Cm)) (⟨kind, onum, od⟩ : Oc) := ⟨_, rfl⟩
  simp only [clV, Ox.val] at hcall hwant hcom0 hrcom0
  rw [← hr] at hcall hwant hsz
  replace hcall := Lib.hid hcall
  replace hwant := Lib.hid hwant
  replace hcom0 := Lib.hid hcom0
  replace hrcom0 := Lib.hid hrcom0
  replace hsz := Lib.hid hsz
  have hn07 : Hid (n0 ≤ 7) := hp1.2.1
  clear hp1 hp2 hp3 hp4 hp5 hsm hcm hcmb hbl hdse hr hnB hE hl0
  obtain ⟨nn, hnn⟩ : ∃ nn, nn = r.2.1 := ⟨_, rfl⟩
  obtain ⟨ee, hee⟩ : ∃ ee, ee = r.2.2 := ⟨_, rfl⟩
  obtain ⟨k0, k1, k2, k3⟩ := cells4 (wE) (w.heap.size) (Value.int .i64 p0) (Value.int .i64 v0) (Value.int .i64 m0) (Value.slice A0 n0 c0) (hX.out)
  obtain ⟨o0, o1, o2⟩ := cells3 (wE) ((w.heap.size + 1)) (Value.int .i64 kind) (Value.int .i64 onum) (Value.slice oA od.length oc) (hO.out)
  go_wp2_with fail
  refine (hcall.out _ hb1.out).mono ?_; rintro e w2 ⟨⟨k', rfl, hk2, hv2⟩, hq⟩
  rw [← hnn, ← hee]
  obtain ⟨p2, v2, m2, A2, n2, c2, l2⟩ := k'
  simp only [clV]
  have hX := Lib.hid ((hX.out.below hq hX.out.lt).alloc (.cells #[Value.int .i64 p2, Value.int .i64 v2, Value.int .i64 m2, Value.slice A2 n2 c2] 24))
  have hO := Lib.hid ((hO.out.below hq hO.out.lt).alloc (.cells #[Value.int .i64 p2, Value.int .i64 v2, Value.int .i64 m2, Value.slice A2 n2 c2] 24))
  have hb2 := Lib.hid ((hb1.out.trans (hq.mono hb1.out.size)).alloc (hb1.out.trans (hq.mono hb1.out.size)).size (.cells #[Value.int .i64 p2, Value.int .i64 v2, Value.int .i64 m2, Value.slice A2 n2 c2] 24))
  have hB5 := Lib.hid (Blk.new w2 24 #[Value.int .i64 p2, Value.int .i64 v2, Value.int .i64 m2, Value.slice A2 n2 c2])
  have hk2' := Lib.hid (hk2.more (a1 w2 (.cells #[Value.int .i64 p2, Value.int .i64 v2, Value.int .i64 m2, Value.slice A2 n2 c2] 24)))
  replace hv2 := Lib.hid hv2
  clear hq hk2 hb1 hcall k0 k1 k2 k3 o0 o1 o2
  obtain ⟨k0, k1, k2, k3⟩ := cells4 ((w2.alloc (.cells #[Value.int .i64 p2, Value.int .i64 v2, Value.int .i64 m2, Value.slice A2 n2 c2] 24))) (w.heap.size) (Value.int .i64 p0) (Value.int .i64 v0) (Value.int .i64 m0) (Value.slice A0 n0 c0) (hX.out)
  obtain ⟨o0, o1, o2⟩ := cells3 ((w2.alloc (.cells #[Value.int .i64 p2, Value.int .i64 v2, Value.int .i64 m2, Value.slice A2 n2 c2] 24))) ((w.heap.size + 1)) (Value.int .i64 kind) (Value.int .i64 onum) (Value.slice oA od.length oc) (hO.out)
  go_wp2_with fail
  obtain ⟨g5, hg5⟩ : ∃ g5, g5 = w2.heap.size := ⟨_, rfl⟩
  rw [← hg5] at hB5 ⊢
  generalize (w2.alloc (.cells #[Value.int .i64 p2, Value.int .i64 v2, Value.int .i64 m2, Value.slice A2 n2 c2] 24)) = wB at *
  refine (hwant.out _ hb2.out).mono ?_; rintro e w3 ⟨⟨k', rfl, hk3, hv3⟩, hq⟩
  rw [← hnn, ← hee]
  replace hnn := Lib.hid hnn
  replace hee := Lib.hid hee
  replace hg5 := Lib.hid hg5
  obtain ⟨p3, v3, m3, A3, n3, c3, l3⟩ := k'
  simp only [clV]
  have hX := Lib.hid ((hX.out.below hq hX.out.lt).alloc (.cells #[Value.int .i64 p3, Value.int .i64 v3, Value.int .i64 m3, Value.slice A3 n3 c3] 24))
  have hB5 := Lib.hid ((hB5.out.below hq hB5.out.lt).alloc (.cells #[Value.int .i64 p3, Value.int .i64 v3, Value.int .i64 m3, Value.slice A3 n3 c3] 24))
  have hb4 := Lib.hid ((hb2.out.trans (hq.mono hb2.out.size)).alloc (hb2.out.trans (hq.mono hb2.out.size)).size (.cells #[Value.int .i64 p3, Value.int .i64 v3, Value.int .i64 m3, Value.slice A3 n3 c3] 24))
  have hB8 := Lib.hid (Blk.new w3 24 #[Value.int .i64 p3, Value.int .i64 v3, Value.int .i64 m3, Value.slice A3 n3 c3])
  have hk2' := Lib.hid ((hk2'.out.more hq).more (a1 w3 (.cells #[Value.int .i64 p3, Value.int .i64 v3, Value.int .i64 m3, Value.slice A3 n3 c3] 24)))
  have hk3' := Lib.hid (hk3.more (a1 w3 (.cells #[Value.int .i64 p3, Value.int .i64 v3, Value.int .i64 m3, Value.slice A3 n3 c3] 24)))
  replace hv3 := Lib.hid hv3
  clear hq hk3 hb2 hwant hO k0 k1 k2 k3 o0 o1 o2
  go_wp2_with fail
  obtain ⟨g8, hg8⟩ : ∃ g8, g8 = w3.heap.size := ⟨_, rfl⟩
  rw [← hg8] at hB8 ⊢
  generalize (w3.alloc (.cells #[Value.int .i64 p3, Value.int .i64 v3, Value.int .i64 m3, Value.slice A3 n3 c3] 24)) = wB at *
  replace hg8 := Lib.hid hg8
  have hs2 : ∀ s ∈ l2, s.n ≤ 5000 := fun s hs => by
    have h1 : s.log.length = s.n := LogAt.len (hk2'.out.els s hs)
    have h2 := hsz.out.2 s.val (by rw [← hv2.out]; exact List.mem_map_of_mem hs)
    have h2 : (s.log.map Em.val).length ≤ 4096 + 1 := h2
    rw [List.length_map] at h2
    omega
  have hn2 : n2 ≤ 1000 := by
    have h1 := hsz.out.1
    rw [← hv2.out, hlen, val_len hk2'.out] at h1
    have h1 : n2 = n0 := h1
    have := hn07.out
    omega
  have hsame : Hid (∀ wz, Below wB.heap.size wB wz → Calls Try.prog 15 #[.agg #[Value.int .i64 p2, Value.int .i64 v2, Value.int .i64 m2, Value.slice A2 n2 c2], .agg #[Value.int .i64 p3, Value.int .i64 v3, Value.int .i64 m3, Value.slice A3 n3 c3]] wz fun e w' => e = .returned (.bool true) ∧ Below wz.heap.size wz w') := fun wz hz => same_any (⟨p2, v2, m2, A2, n2, c2, l2⟩ : Cm) (⟨p3, v3, m3, A3, n3, c3, l3⟩ : Cm) wz (hk2'.out.more hz) (hk3'.out.more hz) (hv2.out.trans hv3.out.symm) hs2 hn2
  have hcom : Hid (∀ wz, Below wB.heap.size wB wz → Calls Try.prog 17 #[.agg #[Value.int .i64 p0, Value.int .i64 v0, Value.int .i64 m0, Value.slice A0 n0 c0]] wz fun e w' => (∃ v, e = .returned v ∧ ComT ds v w') ∧ Below wz.heap.size wz w') := fun wz hz => (hcom0.out wz (hb4.out.trans (hz.mono hb4.out.size))).mono (fun e w' h => ⟨h.1.row, h.2⟩)
  have hrcom : Hid (∀ wz, Below wB.heap.size wB wz → Calls Try.prog 18 #[.agg #[Value.int .i64 p0, Value.int .i64 v0, Value.int .i64 m0, Value.slice A0 n0 c0]] wz fun e w' => (∃ v, e = .returned v ∧ ComT ds v w') ∧ Below wz.heap.size wz w') := fun wz hz => (hrcom0.out wz (hb4.out.trans (hz.mono hb4.out.size))).mono (fun e w' h => ⟨h.1.row, h.2⟩)
  have hex : Hid (∀ wz, Below wB.heap.size wB wz → Calls Try.prog 12 #[] wz fun e w' => e = .returned (.bool true) ∧ Below wz.heap.size wz w') := fun wz _ => ex_any wz
  have hc2 : Hid (∀ wz, Below wB.heap.size wB wz → wz.cell? ⟨w.heap.size, 0, none⟩ = some (Value.int .i64 p0) ∧ wz.cell? ⟨w.heap.size, 1, none⟩ = some (Value.int .i64 v0) ∧ wz.cell? ⟨w.heap.size, 2, none⟩ = some (Value.int .i64 m0) ∧ wz.cell? ⟨w.heap.size, 3, none⟩ = some (Value.slice A0 n0 c0)) := fun wz hz => by
    have q := hX.out.below hz hX.out.lt
    exact ⟨q.cell 0, q.cell 1, q.cell 2, q.cell 3⟩
  have hc5 : Hid (∀ wz, Below wB.heap.size wB wz → wz.cell? ⟨g5, 0, none⟩ = some (Value.int .i64 p2) ∧ wz.cell? ⟨g5, 1, none⟩ = some (Value.int .i64 v2) ∧ wz.cell? ⟨g5, 2, none⟩ = some (Value.int .i64 m2) ∧ wz.cell? ⟨g5, 3, none⟩ = some (Value.slice A2 n2 c2)) := fun wz hz => by
    have q := hB5.out.below hz hB5.out.lt
    exact ⟨q.cell 0, q.cell 1, q.cell 2, q.cell 3⟩
  have hc8 : Hid (∀ wz, Below wB.heap.size wB wz → wz.cell? ⟨g8, 0, none⟩ = some (Value.int .i64 p3) ∧ wz.cell? ⟨g8, 1, none⟩ = some (Value.int .i64 v3) ∧ wz.cell? ⟨g8, 2, none⟩ = some (Value.int .i64 m3) ∧ wz.cell? ⟨g8, 3, none⟩ = some (Value.slice A3 n3 c3)) := fun wz hz => by
    have q := hB8.out.below hz hB8.out.lt
    exact ⟨q.cell 0, q.cell 1, q.cell 2, q.cell 3⟩
  clear hcom0 hrcom0 hk2' hk3' hs2 hn2 hX hB5 hB8
  refine RM.region [] [] (F := F3c w.heap.size g5 g8 #[Value.int .i64 p0, Value.int .i64 v0, Value.int .i64 m0, Value.slice A0 n0 c0] #[Value.int .i64 p2, Value.int .i64 v2, Value.int .i64 m2, Value.slice A2 n2 c2] #[Value.int .i64 p3, Value.int .i64 v3, Value.int .i64 m3, Value.slice A3 n3 c3] nn ee ds) (W := fun wz => Below wB.heap.size wB wz) (R := fun _ => Rb) (S := noS) (G := noG) rfl F3c_more (fun _ _ _ _ _ _ _ => trivial) (fun _ _ _ _ _ h => h.elim) (fun _ _ _ _ _ h => h.elim) (by kernel_rfl) (by kernel_rfl) (by kernel_rfl) (by kernel_rfl) (by kernel_rfl) ?_ ?_ ?_ (by kernel_rfl) ?_
  · exact (Below.refl _ _).drew
  · intro t ht
    unfold F3c
    split <;> first | trivial | exact rfl | (exact absurd ht (by decide))
  · simp only [List.forall_mem_cons, List.not_mem_nil, false_implies, implies_true, and_true]
    refine ⟨?_, ?_, ?_, ?_, ?_, ?_, ?_, ?_, ?_, ?_, ?_, ?_, ?_, ?_, ?_, ?_, ?_, ?_, ?_, ?_, ?_, ?_, ?_, ?_⟩
    · intro a w2 hw _ hf K hK
      have f0 := hf 5 rfl
      simp only [F3c] at f0
      clear hf
      obtain ⟨k0, k1, k2, k3⟩ := hc5.out w2 hw
      go_simp
      exact hK _ _ _ rfl rfl hw (Below.refl _ _) (fun h => absurd h (by decide))
    · intro a w2 hw _ hf K hK
      have f0 := hf 8 rfl
      simp only [F3c] at f0
      clear hf
      obtain ⟨k0, k1, k2, k3⟩ := hc8.out w2 hw
      go_simp
      exact hK _ _ _ rfl rfl hw (Below.refl _ _) (fun h => absurd h (by decide))
    · intro a w2 hw _ hf K hK
      have f0 := hf 39 rfl
      have f1 := hf 40 rfl
      simp only [F3c] at f0 f1
      clear hf
      go_simp
      refine (hsame.out w2 hw).mono ?_; rintro e w5 ⟨rfl, hbq⟩
      exact hK _ _ _ rfl rfl (hw.trans (hbq.mono hw.size)) hbq (fun h => absurd h (by decide))
    · intro a w2 hw _ hf K hK
      have f0 := hf 41 rfl
      simp only [F3c] at f0
      clear hf
      go_simp
      exact hK _ _ _ rfl rfl hw (Below.refl _ _) (fun h => absurd h (by decide))
    · refine ⟨?_, ?_⟩
      · intro a w2 hw hg hf K hK
        have f0 := hf 6 rfl
        simp only [F3c] at f0
        clear hf
        go_simp
        exact hK _ _ _ rfl rfl hw (Below.refl _ _) (fun h => absurd h (by decide))
      · exact fun v w _ hv hne => absurd hv hne
    · refine ⟨?_, ?_⟩
      · intro a w2 hw hg hf K hK
        have f0 := hf 9 rfl
        simp only [F3c] at f0
        clear hf
        go_simp
        exact hK _ _ _ rfl rfl hw (Below.refl _ _) (fun h => absurd h (by decide))
      · exact fun v w _ hv hne => absurd hv hne
    · refine ⟨?_, ?_⟩
      · intro a w2 hw hg hf K hK
        have f0 := hf 43 rfl
        have f1 := hf 44 rfl
        simp only [F3c] at f0 f1
        clear hf
        go_simp
        exact hK _ _ _ rfl rfl hw (Below.refl _ _) (fun h => absurd h (by decide))
      · exact fun v w _ hv hne => absurd hv hne
    · intro a w2 hw _ hf K hK
      have f0 := hf 42 rfl
      have f1 := hf 45 rfl
      simp only [F3c] at f0 f1
      clear hf
      go_simp
      exact hK _ _ _ rfl rfl hw (Below.refl _ _) (fun h => absurd h (by decide))
    · intro a w2 hw _ hf K hK
      have f0 := hf 46 rfl
      simp only [F3c] at f0
      clear hf
      go_simp
      exact hK _ _ _ rfl rfl hw (Below.refl _ _) (fun h => absurd h (by decide))
    · refine ⟨?_, ?_⟩
      · intro a w2 hw hg hf K hK
        have f0 := hf 7 rfl
        simp only [F3c] at f0
        clear hf
        go_simp
        exact hK _ _ _ rfl rfl hw (Below.refl _ _) (fun h => absurd h (by decide))
      · exact fun v w _ hv hne => absurd hv hne
    · refine ⟨?_, ?_⟩
      · intro a w2 hw hg hf K hK
        have f0 := hf 10 rfl
        simp only [F3c] at f0
        clear hf
        go_simp
        exact hK _ _ _ rfl rfl hw (Below.refl _ _) (fun h => absurd h (by decide))
      · exact fun v w _ hv hne => absurd hv hne
    · refine ⟨?_, ?_⟩
      · intro a w2 hw hg hf K hK
        have f0 := hf 48 rfl
        have f1 := hf 49 rfl
        simp only [F3c] at f0 f1
        clear hf
        go_simp
        exact hK _ _ _ rfl rfl hw (Below.refl _ _) (fun h => absurd h (by decide))
      · exact fun v w _ hv hne => absurd hv hne
    · intro a w2 hw _ hf K hK
      have f0 := hf 47 rfl
      have f1 := hf 50 rfl
      simp only [F3c] at f0 f1
      clear hf
      go_simp
      exact hK _ _ _ rfl rfl hw (Below.refl _ _) (fun h => absurd h (by decide))
    · intro a w2 hw _ hf K hK
      have f0 := hf 51 rfl
      simp only [F3c] at f0
      clear hf
      go_simp
      exact hK _ _ _ rfl rfl hw (Below.refl _ _) (fun h => absurd h (by decide))
    · refine ⟨?_, ?_⟩
      · intro a w2 hw hg hf K hK
        have f0 := hf 2 rfl
        simp only [F3c] at f0
        clear hf
        obtain ⟨k0, k1, k2, k3⟩ := hc2.out w2 hw
        go_simp
        exact hK _ _ _ rfl rfl hw (Below.refl _ _) (fun h => absurd h (by decide))
      · exact fun v w _ hv hne => absurd hv hne
    · refine ⟨?_, ?_⟩
      · intro a w2 hw hg hf K hK
        have f0 := hf 53 rfl
        simp only [F3c] at f0
        clear hf
        go_simp
        refine (hcom.out w2 hw).mono ?_; rintro e w5 ⟨⟨v9, rfl, hT⟩, hbq⟩
        exact hK _ _ _ rfl hT (hw.trans (hbq.mono hw.size)) hbq (fun h => absurd h (by decide))
      · exact fun v w _ hv hne => absurd hv hne
    · refine ⟨?_, ?_⟩
      · intro a w2 hw hg hf K hK
        have f0 := hf 2 rfl
        simp only [F3c] at f0
        clear hf
        obtain ⟨k0, k1, k2, k3⟩ := hc2.out w2 hw
        go_simp
        exact hK _ _ _ rfl rfl hw (Below.refl _ _) (fun h => absurd h (by decide))
      · exact fun v w _ hv hne => absurd hv hne
    · refine ⟨?_, ?_⟩
      · intro a w2 hw hg hf K hK
        have f0 := hf 55 rfl
        simp only [F3c] at f0
        clear hf
        go_simp
        refine (hrcom.out w2 hw).mono ?_; rintro e w5 ⟨⟨v9, rfl, hT⟩, hbq⟩
        exact hK _ _ _ rfl hT (hw.trans (hbq.mono hw.size)) hbq (fun h => absurd h (by decide))
      · exact fun v w _ hv hne => absurd hv hne
    · refine ⟨?_, ?_⟩
      · intro a w2 hw hg hf K hK
        have f0 := hf 54 rfl
        have f1 := hf 56 rfl
        simp only [F3c] at f0 f1
        clear hf
        obtain ⟨A4, n4, c4, C4, e4, q41, q42, q43⟩ := f0
        obtain ⟨A6, n6, c6, C6, e6, q61, q62, q63⟩ := f1
        have hn4 : n4 ≤ 100000 := by have h1 := q41.len; have h2 := congrArg List.length q43; rw [List.length_map] at h2; have := hds.out; omega
        have hsd := Lib.hid (sameData_any A4 A6 n4 c4 n6 c6 C4 C6 w2 q41 q61 q42 q62 (q43.trans q63.symm) hn4)
        clear q41 q61 q42 q62 q43 q63
        go_simp
        refine hsd.out.mono ?_; rintro e w5 ⟨rfl, rfl⟩
        exact hK _ _ _ rfl rfl hw (Below.refl _ _) (fun h => absurd h (by decide))
      · exact fun v w _ hv hne => absurd hv hne
    · intro a w2 hw _ hf K hK
      have f0 := hf 52 rfl
      have f1 := hf 57 rfl
      simp only [F3c] at f0 f1
      clear hf
      go_simp
      exact hK _ _ _ rfl rfl hw (Below.refl _ _) (fun h => absurd h (by decide))
    · intro a w2 hw _ hf K hK
      have f0 := hf 58 rfl
      simp only [F3c] at f0
      clear hf
      go_simp
      exact hK _ _ _ rfl rfl hw (Below.refl _ _) (fun h => absurd h (by decide))
    · refine ⟨?_, ?_⟩
      · intro a w2 hw hg hf K hK
        clear hf
        go_simp
        refine (hex.out w2 hw).mono ?_; rintro e w5 ⟨rfl, hbq⟩
        exact hK _ _ _ rfl rfl (hw.trans (hbq.mono hw.size)) hbq (fun h => absurd h (by decide))
      · exact fun v w _ hv hne => absurd hv hne
    · intro a w2 hw _ hf K hK
      have f0 := hf 59 rfl
      have f1 := hf 60 rfl
      simp only [F3c] at f0 f1
      clear hf
      go_simp
      exact hK _ _ _ rfl rfl hw (Below.refl _ _) (fun h => absurd h (by decide))
    · intro a w2 hw _ hf K hK
      have f0 := hf 61 rfl
      simp only [F3c] at f0
      clear hf
      go_simp
      exact hK _ _ _ rfl rfl hw (Below.refl _ _) (fun h => absurd h (by decide))
  · intro a' w9 hd hs hw hout hf _
    have h4 := hf 4 rfl
    simp only [F3c] at h4
    have e0 : _ = some (Value.agg #[Value.int .i64 p0, Value.int .i64 v0, Value.int .i64 m0, Value.slice A0 n0 c0]) := hout 0 rfl
    have e1 : _ = some (Value.agg #[Value.int .i64 kind, Value.int .i64 onum, Value.slice oA od.length oc]) := hout 1 rfl
    have e2 : _ = some (Value.pointer (some ⟨w.heap.size, 0, none⟩)) := hout 2 rfl
    have e3 : _ = some (Value.pointer (some ⟨(w.heap.size + 1), 0, none⟩)) := hout 3 rfl
    obtain ⟨tm, df⟩ := a'
    simp only at hd hs h4 e0 e1 e2 e3
    have e := F3c_lit tm hs
    simp only [h4, e0, e1, e2, e3, Option.getD_some] at e
    clear hf hout hs
    rw [e, hd]
    clear e hd h4 e0 e1 e2 e3
    generalize tm[5]?.getD undef = u5x, tm[6]?.getD undef = u6x, tm[7]?.getD undef = u7x, tm[8]?.getD undef = u8x, tm[9]?.getD undef = u9x, tm[10]?.getD undef = u10x, tm[11]?.getD undef = u11x, tm[12]?.getD undef = u12x, tm[13]?.getD undef = u13x, tm[14]?.getD undef = u14x, tm[15]?.getD undef = u15x, tm[16]?.getD undef = u16x, tm[17]?.getD undef = u17x, tm[18]?.getD undef = u18x, tm[19]?.getD undef = u19x, tm[20]?.getD undef = u20x, tm[21]?.getD undef = u21x, tm[22]?.getD undef = u22x, tm[23]?.getD undef = u23x, tm[24]?.getD undef = u24x, tm[25]?.getD undef = u25x, tm[26]?.getD undef = u26x, tm[27]?.getD undef = u27x, tm[28]?.getD undef = u28x, tm[29]?.getD undef = u29x, tm[30]?.getD undef = u30x, tm[31]?.getD undef = u31x, tm[32]?.getD undef = u32x, tm[33]?.getD undef = u33x, tm[34]?.getD undef = u34x, tm[35]?.getD undef = u35x, tm[36]?.getD undef = u36x, tm[37]?.getD undef = u37x, tm[38]?.getD undef = u38x, tm[39]?.getD undef = u39x, tm[40]?.getD undef = u40x, tm[41]?.getD undef = u41x, tm[42]?.getD undef = u42x, tm[43]?.getD undef = u43x, tm[44]?.getD undef = u44x, tm[45]?.getD undef = u45x, tm[46]?.getD undef = u46x, tm[47]?.getD undef = u47x, tm[48]?.getD undef = u48x, tm[49]?.getD undef = u49x, tm[50]?.getD undef = u50x, tm[51]?.getD undef = u51x, tm[52]?.getD undef = u52x, tm[53]?.getD undef = u53x, tm[54]?.getD undef = u54x, tm[55]?.getD undef = u55x, tm[56]?.getD undef = u56x, tm[57]?.getD undef = u57x, tm[58]?.getD undef = u58x, tm[59]?.getD undef = u59x, tm[60]?.getD undef = u60x, tm[61]?.getD undef = u61x
    have hb := Lib.hid (hb4.out.trans (hw.mono hb4.out.size))
    clear hw hc2 hc5 hc8 hsame hcom hrcom hex
    go_wp2_with fail
    go_ret
    exact ⟨rfl, hb.out⟩
end Go.Proofs.Ytiapeenfggjpnaa
