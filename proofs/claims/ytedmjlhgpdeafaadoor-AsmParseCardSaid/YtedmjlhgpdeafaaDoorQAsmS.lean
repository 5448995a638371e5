/- Layer 34: the program's reader in memory. Conditions: those stated. -/
import Derived.Test.YtedmjlhgpdeafaaDoorQAsmQ
import Derived.Test.YtedmjlhgpdeafaaDoorQOursB25
import Derived.Test.YtedmjlhgpdeafaaDoorQPlain25
import Derived.Test.YtedmjlhgpdeafaaDoorQHeldE
namespace Go.Proofs.YtedmjlhgpdeafaaDoor
open Go.RowKit
set_option linter.unusedVariables false
set_option linter.unusedSimpArgs false
def ARDT : TypeId := 69
def STRT : TypeId := 9
variable {w w' : World} {v : FnV} {f : FnM} {Bl B : Nat}
/-- A function whose code is not written on: its code's block lies below Bl. -/
structure OldF (Bl : Nat) (w : World) (v : FnV) (f : FnM) : Prop where
  d : DeepF w v f
  t : FnT w v
  b : v.c.n = 0 ∨ ∃ k, v.c.a = some ⟨k, 0, none⟩ ∧ k < Bl
def KeepG (Bl : Nat) (w w' : World) : Prop := w.heap.size ≤ w'.heap.size ∧ ∀ k, k < w.heap.size → (tyB w k = some INTT ∨ (tyB w k = some INST ∧ k < Bl)) → w'.heap[k]? = w.heap[k]?
theorem keepG_below (Bl : Nat) (hb : Below w.heap.size w w') : KeepG Bl w w' := ⟨hb.size, fun k hk _ => hb.block k hk⟩
theorem keepG_grown {r : Option Nat} (hg : w.grownBy w' r) (h : ∀ j, r = some j → ∃ X, tyB w j = some X ∧ X ≠ INTT ∧ (X = INST → Bl ≤ j)) : KeepG Bl w w' := ⟨hg.size, fun k hk hq => hg.block k hk (fun e => by
  obtain ⟨X, hX, h1, h2⟩ := h k e.symm
  rcases hq with q | ⟨q, hlt⟩
  · rw [hX] at q; injection q with q; exact h1 q
  · rw [hX] at q; injection q with q; have := h2 q; omega)⟩
theorem keepG_int (h : KeepG Bl w w') : ∀ k, tyB w k = some INTT → w'.heap[k]? = w.heap[k]? := fun k hk => h.2 k (tyB_lt hk) (Or.inl hk)
theorem keepG_intT (h : KeepG Bl w w') : ∀ k, tyB w k = some INTT → tyB w' k = some INTT := fun k hk => by rw [tyB_block (keepG_int h k hk)]; exact hk
theorem keepG_readI (h : KeepG Bl w w') {a : Option Addr} {n c : Nat} {xs : List Int} (ho : slOk w INTT a n) (hr : ReadI w (.slice a n c) xs) : ReadI w' (.slice a n c) xs := readR_I (readR_apart (readI_R hr) ho h.1 (keepG_int h))
theorem oldF_keep (h : KeepG Bl w w') (q : OldF Bl w v f) : OldF Bl w' v f := by
  have hz : v.c.n = 0 → ReadR inE w' v.c.v f.code ∧ slOk w' INST v.c.a v.c.n := fun hn => ⟨readR_apart (E := INTT) q.d.c (Or.inl hn) h.1 (keepG_int h), Or.inl hn⟩
  have hc : ReadR inE w' v.c.v f.code ∧ slOk w' INST v.c.a v.c.n := by
    rcases q.b with hn | ⟨k, ha, hk⟩
    · exact hz hn
    · rcases q.t.2.2 with hn | ⟨k', ha', ht⟩
      · exact hz hn
      · have e : k' = k := by rw [ha] at ha'; injection ha' with ha'; injection ha' with ha'; exact ha'.symm
        subst e
        have hs := h.2 k' (tyB_lt ht) (Or.inr ⟨ht, hk⟩)
        refine ⟨readR_kept q.d.c (fun b hb _ => ?_) h.1, Or.inr ⟨k', ha', by rw [tyB_block hs]; exact ht⟩⟩
        have hb : (Value.slice v.c.a v.c.n v.c.c).ownBlock = some b := hb
        rw [ha'] at hb
        have e2 : k' = b := by injection hb
        rw [← e2]; exact hs
  exact ⟨⟨keepG_readI h q.t.1 q.d.p, keepG_readI h q.t.2.1 q.d.l, q.d.r, hc.1⟩, ⟨slOk_keep q.t.1 (keepG_intT h), slOk_keep q.t.2.1 (keepG_intT h), hc.2⟩, q.b⟩
theorem oldF_top (q : OldF Bl w v f) : OldF w.heap.size w v f := ⟨q.d, q.t, by
  rcases q.t.2.2 with hn | ⟨k, ha, ht⟩
  · exact Or.inl hn
  · exact Or.inr ⟨k, ha, tyB_lt ht⟩⟩
def AllO (Bl : Nat) (w : World) : List FnV → List FnM → Prop
  | [], [] => True
  | v :: vs, f :: fs => OldF Bl w v f ∧ AllO Bl w vs fs
  | _, _ => False
theorem allO_keep (h : KeepG Bl w w') : ∀ {vs : List FnV} {fs : List FnM}, AllO Bl w vs fs → AllO Bl w' vs fs
  | [], [], _ => trivial
  | v :: vs, f :: fs, q => ⟨oldF_keep h q.1, allO_keep h q.2⟩
  | [], _ :: _, q => q.elim
  | _ :: _, [], q => q.elim
theorem allO_top : ∀ {vs : List FnV} {fs : List FnM}, AllO Bl w vs fs → AllO w.heap.size w vs fs
  | [], [], _ => trivial
  | v :: vs, f :: fs, q => ⟨oldF_top q.1, allO_top q.2⟩
  | [], _ :: _, q => q.elim
  | _ :: _, [], q => q.elim
theorem allO_snoc (hd : OldF Bl w v f) : ∀ {vs : List FnV} {fs : List FnM}, AllO Bl w vs fs → AllO Bl w (vs ++ [v]) (fs ++ [f])
  | [], [], _ => ⟨hd, trivial⟩
  | v :: vs, f :: fs, h => ⟨h.1, allO_snoc hd h.2⟩
  | [], _ :: _, h => h.elim
  | _ :: _, [], h => h.elim
theorem allO_F : ∀ {vs : List FnV} {fs : List FnM}, AllO Bl w vs fs → AllF w vs fs
  | [], [], _ => trivial
  | v :: vs, f :: fs, q => ⟨q.1.d, allO_F q.2⟩
  | [], _ :: _, q => q.elim
  | _ :: _, [], q => q.elim
theorem allO_len : ∀ {vs : List FnV} {fs : List FnM}, AllO Bl w vs fs → vs.length = fs.length
  | [], [], _ => rfl
  | v :: vs, f :: fs, q => by simp [allO_len q.2]
  | [], _ :: _, q => q.elim
  | _ :: _, [], q => q.elim
/-- The last function: its code may be written on. -/
structure LastF (Bl : Nat) (w : World) (v : FnV) (f : FnM) : Prop where
  d : DeepF w v f
  t : FnT w v
  o : OwnR inE INST w Bl v.c.v f.code
  z : Bl ≤ w.heap.size
theorem lastF_old (q : LastF Bl w v f) : OldF w.heap.size w v f := oldF_top ⟨q.d, q.t, by
  rcases q.t.2.2 with hn | ⟨k, ha, ht⟩
  · exact Or.inl hn
  · exact Or.inr ⟨k, ha, tyB_lt ht⟩⟩
def LastO (B : Nat) (w : World) (L : List FnV) (fs : List FnM) : Prop := (L = [] ∧ fs = []) ∨ ∃ L0 v fs0 m Bl, L = L0 ++ [v] ∧ fs = fs0 ++ [m] ∧ B ≤ Bl ∧ AllO Bl w L0 fs0 ∧ LastF Bl w v m
theorem lastO_all {L : List FnV} {fs : List FnM} (h : LastO B w L fs) : AllO w.heap.size w L fs := by
  rcases h with ⟨rfl, rfl⟩ | ⟨L0, v, fs0, m, Bl, rfl, rfl, _, h1, h2⟩
  · trivial
  · exact allO_snoc (lastF_old h2) (allO_top h1)
theorem lastO_len {L : List FnV} {fs : List FnM} (h : LastO B w L fs) : L.length = fs.length := allO_len (lastO_all h)
def FnsAt (B : Nat) (w : World) (s : Sl) (fs : List FnM) : Prop := ∃ L, OwnR fnE FUNT w B s.v L ∧ LastO B w L fs
theorem lastF_grown {r : Option Nat} (hg : w.grownBy w' r) (hr : ∀ j, r = some j → ∃ X, tyB w j = some X ∧ X ≠ INTT ∧ X ≠ INST) (q : LastF Bl w v f) : LastF Bl w' v f := by
  have hk : KeepG w.heap.size w w' := keepG_grown hg (fun j e => by obtain ⟨X, h1, h2, h3⟩ := hr j e; exact ⟨X, h1, h2, fun z => absurd z h3⟩)
  have ho := oldF_keep hk (lastF_old q)
  refine ⟨ho.d, ho.t, ownR_kept q.o hg ?_, Nat.le_trans q.z hg.size⟩
  cases e : v.c.v.ownBlock with
  | none => exact Or.inl rfl
  | some j =>
    refine Or.inr (fun z => ?_)
    obtain ⟨X, h1, _, h3⟩ := hr j z.symm
    have := ownR_ty q.o j e
    rw [h1] at this
    injection this with this
    exact h3 this
theorem lastO_grown {r : Option Nat} {L : List FnV} {fs : List FnM} (hg : w.grownBy w' r) (hr : ∀ j, r = some j → ∃ X, tyB w j = some X ∧ X ≠ INTT ∧ X ≠ INST) (q : LastO B w L fs) : LastO B w' L fs := by
  rcases q with q | ⟨L0, v, fs0, m, Bl, h1, h2, h3, h4, h5⟩
  · exact Or.inl q
  · have hk : KeepG Bl w w' := keepG_grown hg (fun j e => by obtain ⟨X, h1, h2, h3⟩ := hr j e; exact ⟨X, h1, h2, fun z => absurd z h3⟩)
    exact Or.inr ⟨L0, v, fs0, m, Bl, h1, h2, h3, allO_keep hk h4, lastF_grown hg hr h5⟩
theorem fns_grown {r : Option Nat} {s : Sl} {fs : List FnM} (hg : w.grownBy w' r) (hr : ∀ j, r = some j → ∃ X, tyB w j = some X ∧ X ≠ INTT ∧ X ≠ INST ∧ X ≠ FUNT) (q : FnsAt B w s fs) : FnsAt B w' s fs := by
  obtain ⟨L, h1, h2⟩ := q
  refine ⟨L, ownR_kept h1 hg ?_, lastO_grown hg (fun j e => by obtain ⟨X, a, b, c, _⟩ := hr j e; exact ⟨X, a, b, c⟩) h2⟩
  cases e : s.v.ownBlock with
  | none => exact Or.inl rfl
  | some j =>
    refine Or.inr (fun z => ?_)
    obtain ⟨X, h3, _, _, h4⟩ := hr j z.symm
    have := ownR_ty h1 j e
    rw [h3] at this
    injection this with this
    exact h4 this
theorem fns_below {s : Sl} {fs : List FnM} (hb : Below w.heap.size w w') (q : FnsAt B w s fs) : FnsAt B w' s fs := fns_grown (r := none) (gb_of hb none) (fun j e => by cases e) q
theorem fns_read {s : Sl} {fs : List FnM} (q : FnsAt B w s fs) : ReadFs w s.v fs := by
  obtain ⟨L, h1, h2⟩ := q
  exact ⟨L, ownR_read h1, allO_F (lastO_all h2)⟩
/-- One more function. -/
theorem fns_add {s s' : Sl} {L : List FnV} {fs : List FnM} (h1 : OwnR fnE FUNT w B s.v L) (h2 : LastO B w L fs) (hB : B ≤ w.heap.size) (hg : w.grownBy w' s.v.ownBlock) {p l : Sl} {r : Int} (ho : OwnR fnE FUNT w' B s'.v (L ++ [⟨p, l, r, ⟨none, 0, 0⟩⟩])) {a b : List Int} (hp : ReadI w p.v a) (hp2 : slOk w INTT p.a p.n) (hl : ReadI w l.v b) (hl2 : slOk w INTT l.a l.n) : FnsAt B w' s' (fs ++ [⟨a, b, r, []⟩]) := by
  have hr : ∀ j, s.v.ownBlock = some j → ∃ X, tyB w j = some X ∧ X ≠ INTT ∧ X ≠ INST := fun j e => ⟨FUNT, ownR_ty h1 j e, by decide, by decide⟩
  have hk : KeepG w.heap.size w w' := keepG_grown hg (fun j e => by obtain ⟨X, h1, h2, h3⟩ := hr j e; exact ⟨X, h1, h2, fun z => absurd z h3⟩)
  refine ⟨_, ho, Or.inr ⟨L, _, fs, _, w.heap.size, rfl, rfl, hB, allO_keep hk (lastO_all h2), ⟨⟨keepG_readI hk hp2 hp, keepG_readI hk hl2 hl, rfl, readR_nil _⟩, ⟨slOk_keep hp2 (keepG_intT hk), slOk_keep hl2 (keepG_intT hk), Or.inl rfl⟩, ownR_nil _ _, hg.size⟩⟩⟩
theorem addLast_snoc : ∀ (fs : List FnM) (m : FnM) (i : In4), addLast (fs ++ [m]) i = fs ++ [addI m i]
  | [], m, i => rfl
  | [f], m, i => rfl
  | f :: g :: r, m, i => by
    show f :: addLast ((g :: r) ++ [m]) i = _
    rw [addLast_snoc (g :: r) m i]; rfl
theorem fnrow_set : ∀ (L : List FnV) (x y : FnV), x.p = y.p → x.l = y.l → x.r = y.r → (fnE.row (L ++ [x])).set (L.length * 4 + 3) y.c.v = fnE.row (L ++ [y])
  | [], x, y, h1, h2, h3 => by
    show [x.p.v, x.l.v, Value.int .i64 x.r, x.c.v].set 3 y.c.v = [y.p.v, y.l.v, Value.int .i64 y.r, y.c.v]
    rw [h1, h2, h3]; rfl
  | z :: L, x, y, h1, h2, h3 => by
    have ih := fnrow_set L x y h1 h2 h3
    rw [List.cons_append, List.cons_append, row_cons, row_cons, ← ih]
    have e1 : (z :: L).length * 4 + 3 = L.length * 4 + 3 + 1 + 1 + 1 + 1 := by simp; omega
    rw [e1]; rfl
/-- The last function's code grows. -/
theorem fns_code {s : Sl} {g : Nat} {L0 : List FnV} {v : FnV} {fs0 : List FnM} {m : FnM} {i : In4} {c' : Sl} {w1 w2 : World} (h1 : OwnR fnE FUNT w B s.v (L0 ++ [v])) (hsg : s.a = some ⟨g, 0, none⟩) (hB : B ≤ Bl) (h2 : AllO Bl w L0 fs0) (h3 : LastF Bl w v m)
    (hb : Below w.heap.size w w1) (ho : OwnR inE INST w2 Bl c'.v (m.code ++ [i])) (hg : w1.grownBy w2 v.c.v.ownBlock) : FnsAt B (w2.setCell ⟨g, L0.length * 4 + 3, none⟩ c'.v) s (addLast (fs0 ++ [m]) i) := by
  have q1 := allO_keep (keepG_below Bl hb) h2
  have q2 := ownR_below h1 hb
  have q3 := lastF_grown (r := none) (gb_of hb none) (fun j e => by cases e) h3
  have hr : ∀ j, v.c.v.ownBlock = some j → ∃ X, tyB w1 j = some X ∧ X ≠ INTT ∧ (X = INST → Bl ≤ j) := fun j e => ⟨INST, ownR_ty q3.o j e, by decide, fun _ => (ownR_lt q3.o j e).1⟩
  have hk := keepG_grown (Bl := Bl) hg hr
  have t1 := allO_keep hk q1
  have t2 : OwnR fnE FUNT w2 B s.v (L0 ++ [v]) := ownR_kept q2 hg (by
    cases e : s.v.ownBlock with
    | none => exact Or.inl rfl
    | some j =>
      refine Or.inr (fun z => ?_)
      have a1 := ownR_ty q2 j e
      have a2 := ownR_ty q3.o j z.symm
      rw [a1] at a2
      injection a2 with a2
      exact absurd a2 (by decide))
  have hob : s.v.ownBlock = some g := by show (Value.slice s.a s.n s.c).ownBlock = _; rw [hsg]; rfl
  have hgt := ownR_ty t2 g hob
  have hg3 : w2.grownBy (w2.setCell ⟨g, L0.length * 4 + 3, none⟩ c'.v) (some g) := gb_set (gb_refl w2 (some g)) _ none _
  have hr3 : ∀ j, some g = some j → ∃ X, tyB w2 j = some X ∧ X ≠ INTT ∧ (X = INST → Bl ≤ j) := fun j e => by
    injection e with e
    subst e
    exact ⟨FUNT, hgt, by decide, fun z => absurd z (by decide)⟩
  have hk3 := keepG_grown (Bl := Bl) hg3 hr3
  have t4 := ownR_kept ho hg3 (by
    cases e : c'.v.ownBlock with
    | none => exact Or.inl rfl
    | some j =>
      refine Or.inr (fun z => ?_)
      injection z with z
      subst z
      have a2 := ownR_ty ho j e
      rw [hgt] at a2
      injection a2 with a2
      exact absurd a2 (by decide))
  have t5 : OwnR fnE FUNT (w2.setCell ⟨g, L0.length * 4 + 3, none⟩ c'.v) B s.v (L0 ++ [{ v with c := c' }]) := by
    obtain ⟨sa, sn, sc⟩ := s
    simp only at hsg
    subst hsg
    have hn : sn = (L0 ++ [v]).length := by
      obtain ⟨_, _, e, _⟩ := ownR_read t2
      injection e
    subst hn
    have t2' : w2.ownsRow B FUNT fnE.size (.slice (some ⟨g, 0, none⟩) (L0 ++ [v]).length sc) (L0 ++ [v]).length (fnE.row (L0 ++ [v])) := t2
    show (w2.setCell ⟨g, L0.length * 4 + 3, none⟩ c'.v).ownsRow B FUNT fnE.size (.slice (some ⟨g, 0, none⟩) (L0 ++ [v]).length sc) _ _
    rw [← fnrow_set L0 v { v with c := c' } rfl rfl rfl]
    have q := (World.ownsRow.stored t2' (L0.length * 4 + 3) c'.v).1
    have e : (L0 ++ [{ v with c := c' }]).length = (L0 ++ [v]).length := by simp
    rw [e]; exact q
  have hsl : slOk (w2.setCell ⟨g, L0.length * 4 + 3, none⟩ c'.v) INST c'.a c'.n := by
    have hlen : c'.n = (m.code ++ [i]).length := by
      obtain ⟨_, _, e, _⟩ := ownR_read t4
      injection e
    obtain ⟨g', cap', e, _⟩ := ownR_form t4 (by simp)
    have ea : c'.a = some ⟨g', 0, none⟩ := by injection e
    exact Or.inr ⟨g', ea, ownR_ty t4 g' (by show (Value.slice c'.a c'.n c'.c).ownBlock = _; rw [ea]; rfl)⟩
  have hp := keepG_readI hk3 (slOk_keep q3.t.1 (keepG_intT hk)) (keepG_readI hk q3.t.1 q3.d.p)
  have hl := keepG_readI hk3 (slOk_keep q3.t.2.1 (keepG_intT hk)) (keepG_readI hk q3.t.2.1 q3.d.l)
  refine ⟨_, t5, Or.inr ⟨L0, _, fs0, addI m i, Bl, rfl, addLast_snoc fs0 m i, hB, allO_keep hk3 t1, ⟨⟨hp, hl, q3.d.r, ownR_read t4⟩, ⟨slOk_keep (slOk_keep q3.t.1 (keepG_intT hk)) (keepG_intT hk3), slOk_keep (slOk_keep q3.t.2.1 (keepG_intT hk)) (keepG_intT hk3), hsl⟩, t4, Nat.le_trans q3.z (Nat.le_trans hg.size hg3.size)⟩⟩⟩
/-- The reader: its own block, and the program that was read so far. -/
structure ARdAt (W0 w : World) (rb : Nat) (fi : Bool) (nx : Value) (P : PrM) (g s : Sl) : Prop where
  hd : Blk w rb [.bool P.u, g.v, .int .i64 P.m, s.v, .bool fi, nx]
  ty : tyB w rb = some ARDT
  gl : ReadI w g.v P.gl
  go : slOk w INTT g.a g.n
  fs : FnsAt W0.heap.size w s P.fs
  be : Below W0.heap.size W0 w
  lo : W0.heap.size ≤ rb
variable {W0 : World} {rb : Nat} {fi : Bool} {nx : Value} {P : PrM} {g s : Sl}
theorem ard_below (h : ARdAt W0 w rb fi nx P g s) (hb : Below w.heap.size w w') : ARdAt W0 w' rb fi nx P g s :=
  ⟨blk_below h.hd hb, tyB_call h.ty hb, readI_below h.gl hb, slOk_keep h.go (fun k hk => tyB_call hk hb), fns_below hb h.fs, b_call h.be hb, h.lo⟩
theorem ard_read (h : ARdAt W0 w rb fi nx P g s) : ReadP w ⟨P.u, g, P.m, s⟩ P := ⟨rfl, h.gl, rfl, fns_read h.fs⟩
/-- Its own block turns. -/
theorem ard_turn (h : ARdAt W0 w rb fi nx P g s) {P' : PrM} {g' : Sl} {fi' : Bool} {nx' : Value} (hg : w.grownBy w' (some rb)) (hb : Blk w' rb [.bool P'.u, g'.v, .int .i64 P'.m, s.v, .bool fi', nx']) (hr : ReadI w g'.v P'.gl) (ho : slOk w INTT g'.a g'.n) (hf : P'.fs = P.fs) (hty : tyB w' rb = some ARDT) : ARdAt W0 w' rb fi' nx' P' g' s ∧ KeepE STRT w w' := by
  have hX : ∀ j, some rb = some j → ∃ X, tyB w j = some X ∧ X ≠ INTT ∧ X ≠ INST ∧ X ≠ FUNT := fun j e => by
    injection e with e
    subst e
    exact ⟨ARDT, h.ty, by decide, by decide, by decide⟩
  have hk : KeepG 0 w w' := keepG_grown hg (fun j e => by obtain ⟨X, a, b, c, _⟩ := hX j e; exact ⟨X, a, b, fun z => absurd z c⟩)
  refine ⟨⟨hb, ?_, keepG_readI hk ho hr, slOk_keep ho (keepG_intT hk), by rw [hf]; exact fns_grown hg hX h.fs, b_grown h.be hg h.lo, h.lo⟩, keepE_grown hg (fun j e => by injection e with e; subst e; exact ⟨ARDT, h.ty, by decide⟩)⟩
  exact hty
end Go.Proofs.YtedmjlhgpdeafaaDoor
