/- Slices of the call's own that may begin inside their row (v = v[1:], v = append(v, x)). -/
import Derived.ArgAppend
import Derived.Test.YteolglmdfjddlaaFlat
set_option linter.unusedVariables false
namespace Go.Proofs.Yteolglmdfjddlaa
open Go.RowKit
section
variable {α : Type} {f : α → List Value} {s : Nat} {e : TypeId} {w w' : World} {base : Nat} {v : Value} {l : List α}
/-- a slice of the call's own, anywhere in its row -/
def OOwn (f : α → List Value) (s : Nat) (e : TypeId) (w : World) (base : Nat) (v : Value) (l : List α) : Prop :=
  (∀ a, (f a).length = s) ∧ ((v = .slice none 0 0 ∧ l = []) ∨ ∃ g o cap cur, v = .slice (some ⟨g, o, none⟩) l.length cap ∧ base ≤ g ∧ Blk w g e cur ∧ l.length ≤ cap ∧ cap ≤ maxLen ∧ o + cap * s ≤ cur.size ∧ ∀ j u, (flat f l)[j]? = some u → cur[o + j]? = some u)
theorem OOwn.nil (hf : ∀ a, (f a).length = s) (w : World) (base : Nat) : OOwn f s e w base (.slice none 0 0) [] := ⟨hf, .inl ⟨rfl, rfl⟩⟩
theorem LOwn.off (h : LOwn f s e w base v l) : OOwn f s e w base v l := by
  refine ⟨h.1, ?_⟩
  rcases h.2.2 with ⟨hv, hn⟩ | ⟨g, cap, cur, hv, hb, hh, hn, hc, hsz, ht⟩
  · exact .inl ⟨hv, List.eq_nil_of_length_eq_zero hn⟩
  · refine .inr ⟨g, 0, cap, cur, hv, hb, hh, hn, hc, by omega, fun j u hu => ?_⟩
    have hj : j < l.length * s := by
      have := (List.getElem?_eq_some_iff.1 hu).1
      rw [flat_len h.1] at this
      exact this
    rw [← ht, List.getElem?_take] at hu
    rw [if_pos hj] at hu
    simpa using hu
theorem OOwn.kept (h : OOwn f s e w base v l) (hb : Below w.heap.size w w') : OOwn f s e w' base v l := by
  refine ⟨h.1, ?_⟩
  rcases h.2 with h | ⟨g, o, cap, cur, hv, h1, h2, h3⟩
  · exact .inl h
  · exact .inr ⟨g, o, cap, cur, hv, h1, h2.below hb h2.lt, h3⟩
theorem OOwn.grown {row : Option Nat} (h : OOwn f s e w base v l) (hg : w.grownBy w' row) (hne : v.ownBlock = none ∨ v.ownBlock ≠ row) : OOwn f s e w' base v l := by
  refine ⟨h.1, ?_⟩
  rcases h.2 with h | ⟨g, o, cap, cur, hv, h1, h2, h3⟩
  · exact .inl h
  · refine .inr ⟨g, o, cap, cur, hv, h1, h2.grown hg ?_, h3⟩
    rw [hv] at hne
    rcases hne with h | h
    · cases h
    · exact h
theorem OOwn.form (h : OOwn f s e w base v l) : ∃ A cap, v = .slice A l.length cap ∧ l.length ≤ cap ∧ cap ≤ maxLen ∧ (∀ ad, A = some ad → ad = ⟨ad.block, ad.off, none⟩ ∧ base ≤ ad.block ∧ ad.block < w.heap.size) ∧ LAt f s w w.heap.size A l.length l := by
  rcases h.2 with ⟨hv, hl⟩ | ⟨g, o, cap, cur, hv, h1, h2, h3, h4, h5, h6⟩
  · subst hl
    exact ⟨none, 0, hv, Nat.le_refl _, Nat.zero_le _, fun _ e => (by cases e), LAt.nil h.1 _ _⟩
  · refine ⟨some ⟨g, o, none⟩, cap, hv, h3, h4, fun ad e => by injection e with e; subst e; exact ⟨rfl, h1, h2.lt⟩, ⟨⟨rfl, h.1⟩, ⟨by rw [flat_len h.1], fun h0 => ⟨_, rfl, h2.lt, fun j u hu => ?_⟩⟩⟩⟩
    rw [Addr.add_lit, h2.cell]
    exact h6 j u hu
/-- the own slice without its first element -/
theorem OOwn.pop {x : α} {A : Option Addr} {n cap : Nat} (hs : 0 < s) (h : OOwn f s e w base (.slice A n cap) (x :: l)) : OOwn f s e w base (.slice (if cap = 1 then A else A.map (·.add s)) (n - 1) (cap - 1)) l := by
  refine ⟨h.1, ?_⟩
  rcases h.2 with ⟨_, hl⟩ | ⟨g, o, c, cur, hv, h1, h2, h3, h4, h5, h6⟩
  · cases hl
  · injection hv with e1 e2 e3
    subst e1; subst e2; subst e3
    have hxs : flat f (x :: l) = f x ++ flat f l := by simp [flat]
    simp only [List.length_cons] at h3 ⊢
    by_cases hc : cap = 1
    · rw [if_pos hc]
      have hl : l = [] := List.eq_nil_of_length_eq_zero (by omega)
      subst hl
      refine .inr ⟨g, o, cap - 1, cur, by simp, h1, h2, by simp, by omega, ?_, fun j u hu => by simp [flat] at hu⟩
      subst hc
      simp at h5 ⊢
      omega
    · rw [if_neg hc]
      refine .inr ⟨g, o + s, cap - 1, cur, by simp [Addr.add_lit], h1, h2, by omega, by omega, ?_, fun j u hu => ?_⟩
      · obtain ⟨k, rfl⟩ : ∃ k, cap = k + 1 := ⟨cap - 1, by omega⟩
        simp only [Nat.add_sub_cancel]
        rw [Nat.add_mul] at h5
        omega
      · have := h6 (s + j) u (by rw [hxs, List.getElem?_append_right (by rw [h.1]; omega), h.1]; simpa using hu)
        rw [← Nat.add_assoc] at this
        exact this
theorem blk_setCells {g : Nat} : ∀ (vs : List Value) (o : Nat) (w : World) (cur : Array Value), Blk w g e cur → ∃ cur', Blk (w.setCells g o vs) g e cur' ∧ cur'.size = cur.size
  | [], _, w, cur, h => ⟨cur, h, rfl⟩
  | v :: r, o, w, cur, h => by
    obtain ⟨c2, h1, h2⟩ := blk_setCells r (o + 1) (w.setCell ⟨g, o, none⟩ v) _ (h.set_ o v)
    exact ⟨c2, h1, by rw [h2]; simp⟩
theorem grown_setCells {g : Nat} : ∀ (vs : List Value) (o : Nat) (a w : World), a.grownBy w (some g) → a.grownBy (w.setCells g o vs) (some g)
  | [], _, _, _, h => h
  | v :: r, o, a, w, h => grown_setCells r (o + 1) a _ (only_set h o v)
end
section
variable {P : Program} (w : World)
theorem run_append_off {α : Type} {f : α → List Value} {l : List α} (base : Nat) (t ty e : TypeId) (i : TypeInfo) (z : Value) (size bytes : Nat) (ht : P.underlying t = some (.slice e)) (hi : P.info? e = some i) (hz : i.zero = some z)
    (hsize : i.size = size) (hby : i.bytes = bytes) (hzs : z.cells.size = size) (hsz : 0 < size)
    (v : Value) (hown : OOwn f size e w base v l)
    (B : Nat) (A : Option Addr) (c : Nat) (x : α) (hr : Reads w B size A 1 (f x)) (h1 : ∀ u ∈ f x, u.oneCell' = true)
    (h63 : l.length + 1 ≤ maxLen) (hbytes : (l.length + 1) * bytes ≤ 140737488355328) (hbase : base ≤ w.heap.size) :
    ∃ v' w', (Builtin.append_ #[t, t] ty #[v, .slice A 1 c]).run P w = .ok v' w' ∧ OOwn f size e w' base v' (l ++ [x]) ∧ w.grownBy w' v.ownBlock ∧ (v'.ownBlock = v.ownBlock ∨ v'.ownBlock = some w.heap.size) := by
  have hfl : ∀ a, (f a).length = size := hown.1
  rcases hown.2 with ⟨rfl, rfl⟩ | ⟨g, o, cap, cur, rfl, hb, hblk, hn, hc, hfit, hcur⟩
  · obtain ⟨v', w', h2, h3, h4, h5⟩ := run_append_any (P := P) w base t ty e i z size bytes ht hi hz hsize hby hzs hsz (.slice none 0 0) 0 [] (World.ownsRow_nil _ _ _ _) B A 1 c (f x) hr h1 (by simpa using h63) (by simpa using hbytes) hbase
    refine ⟨v', w', h2, LOwn.off ⟨hfl, ?_⟩, h4, h5⟩
    simpa [flat] using h3
  · obtain ⟨ad, rfl, _, hcells⟩ := hr.2 (by omega)
    have hfx : (f x).length = 1 * i.size := by rw [hfl, hsize]; omega
    by_cases hroom : l.length + 1 ≤ cap
    · have hin : ∀ j, j < (f x).length → o + l.length * i.size + j < cur.size := fun j hj => by
        rw [hfl] at hj
        rw [hsize]
        have : (l.length + 1) * size ≤ cap * size := Nat.mul_le_mul_right _ hroom
        rw [Nat.add_mul] at this
        omega
      have hcs : ∀ j, j < (f x).length → (w.cell? ⟨g, o + l.length * i.size + j, none⟩).isSome = true := fun j hj => by
        rw [hblk.cell, Array.getElem?_eq_getElem (hin j hj)]
        rfl
      have hrun := run_append_room_cells (P := P) w t ty e i ht hi g o l.length cap ad 1 c (f x) hfx hcells h1 hroom hcs (fun j hj => hblk.frozen _)
      obtain ⟨cur', hb', hsz'⟩ := blk_setCells (f x) (o + l.length * i.size) w cur hblk
      refine ⟨_, _, hrun, ⟨hfl, .inr ⟨g, o, cap, cur', by simp, hb, hb', by simpa using hroom, hc, by rw [hsz']; exact hfit, fun j u hu => ?_⟩⟩, grown_setCells _ _ _ _ (World.grownBy.refl _ _), .inl rfl⟩
      rw [← hb'.cell]
      rw [flat_append, flat_one] at hu
      by_cases hj : j < (flat f l).length
      · rw [List.getElem?_append_left hj] at hu
        rw [World.cell?_setCells_out g (f x) _ w _ (fun _ _ => .inl (by show o + j < _; rw [flat_len hfl] at hj; rw [hsize]; omega)), hblk.cell]
        exact hcur j u hu
      · rw [List.getElem?_append_right (by omega)] at hu
        have hjl := (List.getElem?_eq_some_iff.1 hu).1
        have := World.cell?_setCells_in g (f x) (o + l.length * i.size) w hcs (j - (flat f l).length) hjl
        rw [show o + l.length * i.size + (j - (flat f l).length) = o + j by rw [flat_len hfl] at hj ⊢; rw [hsize]; omega] at this
        rw [this, ← List.getElem?_eq_getElem hjl]
        exact hu
    · have holds : ∀ j u, (flat f l)[j]? = some u → w.cell? ((⟨g, o, none⟩ : Addr).add j) = some u := fun j u hu => by
        rw [Addr.add_lit, hblk.cell]
        exact hcur j u hu
      subst hsize
      subst hby
      have hlen : (flat f (l ++ [x])).length = (l.length + 1) * i.size := by rw [flat_len hfl]; simp
      have hfm : maxLen ≤ 9223372036854775807 := by simp only [maxLen]; omega
      have hrun := run_append_grow (P := P) w t ty e i z ht hi hz ⟨g, o, none⟩ l.length cap (flat f l) (flat_len hfl l) holds ad 1 c (f x) hfx hcells (by omega) (by omega) (growslice_fits (by omega) hbytes)
      have hge := grownCap_ge w (l.length + 1) cap e
      have hcm : grownCap w (l.length + 1) cap e ≤ maxLen := grownCap_le_maxLen w (l.length + 1) cap e h63
      refine ⟨_, _, hrun, LOwn.off ⟨hfl, ⟨by rw [flat_len hfl], .inr ⟨w.heap.size, grownCap w (l.length + 1) cap e, _, by simp, hbase, heap_alloc_new w.drew _, by simpa using hge, hcm, ?_, ?_⟩⟩⟩, ⟨rfl, rfl, rfl, by simp, fun k hk _ => heap_alloc_old w.drew _ hk⟩, .inr rfl⟩
      · simp only [Array.size_append, List.size_toArray, size_zeroCells, hzs, flat_len hfl, hfx, ← Nat.add_mul]
        congr 1
        omega
      · simp only [Array.toList_append]
        rw [← flat_one (f := f) x, ← flat_append]
        have : (l ++ [x]).length * i.size = (flat f (l ++ [x])).length := (flat_len hfl _).symm
        rw [this]
        exact List.take_left
theorem wpList_append_off {α : Type} {f : α → List Value} {l : List α} {ops : Array Oper} {rest : List Oper} {o : Oper} {a : Act} {Q : Exit → Act → World → Prop} (hgd : o.guard = none) (s x : Operand) (t : TypeId)
    (ho : o.op = .call { callee := .builtin .append, args := #[s, x], argTypes := #[t, t] })
    (base : Nat) (e : TypeId) (i : TypeInfo) (z : Value) (size bytes : Nat) (ht : P.underlying t = some (.slice e)) (hi : P.info? e = some i) (hz : i.zero = some z)
    (hsize : i.size = size) (hby : i.bytes = bytes) (hzs : z.cells.size = size) (hsz : 0 < size)
    (v : Value) (hs : a.eval s = v) (hown : OOwn f size e w base v l)
    (B : Nat) (A : Option Addr) (c : Nat) (y : α) (hx : a.eval x = .slice A 1 c) (hr : Reads w B size A 1 (f y)) (h1 : ∀ u ∈ f y, u.oneCell' = true)
    (h63 : l.length + 1 ≤ maxLen) (hbytes : (l.length + 1) * bytes ≤ 140737488355328) (hbase : base ≤ w.heap.size)
    (h : ∀ v' w', OOwn f size e w' base v' (l ++ [y]) → w.grownBy w' v.ownBlock → (v'.ownBlock = v.ownBlock ∨ v'.ownBlock = some w.heap.size) → wpList P ops Q rest (a.put o.dst v') w') : wpList P ops Q (o :: rest) a w := by
  refine wpList_plain hgd fun K hK => ?_
  obtain ⟨v', w', hr, h2, h3, h4⟩ := run_append_off (P := P) w base t o.type e i z size bytes ht hi hz hsize hby hzs hsz v hown B A c y hr h1 h63 hbytes hbase
  unfold Oper.wp execOp
  simp only [ho, resolve, invoke, builtin, Sem.run_bind, Sem.run_pure, Result.andThen_ok, List.map_toArray, List.map_cons, List.map_nil, hs, hx, hr]
  exact hK _ _ (h v' w' h2 h3 h4)
end
end Go.Proofs.Yteolglmdfjddlaa
