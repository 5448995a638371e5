/- Layer 28: the contracts of Pop and Push; what they leave. Conditions: those stated. -/
import Derived.Test.YtdmidnmciaediaaYFrm2
import Derived.Deep.RegionLaw
import Derived.Deep.RegionLawGrows
namespace Go.Proofs.Ytdmidnmciaediaa
open Go.RowKit
set_option linter.unusedVariables false
set_option linter.unusedSimpArgs false
attribute [local go_sem] over_cell over_frozen
/-- A block of the frames' own. -/
def FrTy (w : World) (j : Nat) : Prop := tyB w j = some FRST ∨ tyB w j = some FPTT ∨ tyB w j = some FRMT ∨ tyB w j = some VALT
/-- Of the older blocks those of the frames' own types alone may have turned. -/
def GrT (w w' : World) : Prop := GrowX w w' (FrTy w)
theorem grT_below {w w' : World} (h : Below w.heap.size w w') : GrT w w' := gx_below h _
theorem grT_trans {a b c : World} (h : GrT a b) (h' : GrT b c) : GrT a c := by
  refine gx_trans h h' (fun _ _ q => q) (fun k hk hq => ?_)
  rcases Classical.em (FrTy a k) with q | q
  · exact q
  · have e := tyB_block (h.block k hk q)
    unfold FrTy at hq q
    rw [e] at hq
    exact absurd hq q
theorem grT_of {w w' : World} {X : Nat → Prop} (h : GrowX w w' X) (hX : ∀ j, j < w.heap.size → X j → FrTy w j) : GrT w w' := gx_mono h hX
theorem grT_gb {w w' : World} {j : Nat} (h : w.grownBy w' (some j)) (hj : FrTy w j) : GrT w w' := gx_gb h (fun k e => by injection e with e; subst e; exact hj)
variable {w0 w w' : World} {s : Nat} {p : PrV} {lv : Sl} {ds : List FrD} {L : List FrM} {d : FrD} {m : FrM}
theorem frs_ok (h : FrsAt w0 w s p lv (ds ++ [d]) (L ++ [m])) : FrOk w0.heap.size w d m := by
  obtain ⟨ds', d2, e, hA, hO⟩ := frAll_last h.fr
  obtain ⟨e1, e2⟩ := List.append_inj' e (by simp)
  obtain rfl : d = d2 := by simpa using e2
  exact hO
theorem blk_new3 {w : World} {c : Array Value} {T : TypeId} {k : Nat} (hk : k = w.heap.size) : Blk (w.alloc (.cells c T)) k c.toList := by rw [hk]; exact blk_new w c T
theorem own_sl {α : Type} {c : Elt α} {E : TypeId} {B : Nat} {sl : Sl} {M : List α} (h : OwnR c E w B sl.v M) : sl.n = M.length ∧ M.length ≤ sl.c ∧ sl.c ≤ maxLen := by
  obtain ⟨a, cap, e, e2, e3⟩ := readR_len (ownR_read h)
  have e4 : Value.slice sl.a sl.n sl.c = .slice a M.length cap := e
  injection e4 with _ e5 e6
  rw [e6]; exact ⟨e5, e2, e3⟩
/-- The topmost frame's head is another one. -/
theorem frs_head {d' : FrD} {m' : FrM} {i : Nat} {u : Value} (h : FrsAt w0 w s p lv (ds ++ [d]) (L ++ [m])) (hb : d'.b = d.b) (hn : ∀ k, d'.owns k → d.owns k) (hd : FrOk w0.heap.size (w.setCell ⟨d.b, i, none⟩ u) d' m') :
    FrsAt w0 (w.setCell ⟨d.b, i, none⟩ u) s p lv (ds ++ [d']) (L ++ [m']) ∧ GrT w (w.setCell ⟨d.b, i, none⟩ u) := by
  have g1 : GrowX w (w.setCell ⟨d.b, i, none⟩ u) (fun j => j = d.b) := gx_set (X := fun j => j = d.b) (gx_refl _ _) (Or.inr rfl) _
  refine ⟨frs_top h (gx_mono g1 (fun k _ e => Or.inl e)) hd hb (fun k hk => Or.inl (hn k hk)), grT_of g1 (fun j _ e => ?_)⟩
  rw [e]; exact Or.inr (Or.inr (Or.inl (frs_ok h).ty))
theorem pop_ok {S : List ValM} {v : ValM} (h : FrOk w0.heap.size w d m) (hs : m.stk = S ++ [v]) : FrOk w0.heap.size (w.setCell ⟨d.b, 3, none⟩ (.slice d.sv.a S.length d.sv.c)) ⟨d.b, d.lv, ⟨d.sv.a, S.length, d.sv.c⟩⟩ ⟨m.f, m.at_, m.loc, S⟩ := by
  have hG : GrowX w (w.setCell ⟨d.b, 3, none⟩ (.slice d.sv.a S.length d.sv.c)) (fun j => j = d.b) := gx_set (X := fun j => j = d.b) (gx_refl _ _) (Or.inr rfl) _
  have ho := h.s
  rw [hs] at ho
  have hn := (own_sl ho).1
  have e3 : d.sv.v = .slice d.sv.a (S.length + 1) d.sv.c := by unfold Sl.v; rw [hn]; simp
  rw [e3] at ho
  obtain ⟨p1, _, g, hg⟩ := ownR_pop ho
  refine ⟨blk_set h.hd 3 _, by rw [tyB_set]; exact h.ty, ownR_gx h.l hG (fun k hk e => ownR_ne h.l h.ty (by decide) k hk e), ownR_gx p1 hG (fun k hk e => ownR_ne p1 h.ty (by decide) k hk e), fun k hk => ?_, h.lo⟩
  have := h.ne k hk
  rw [e3] at this
  intro e
  apply this
  rw [hg] at e ⊢
  exact e
theorem fpop_none (h : FrsAt w0 w s p lv ds []) : Calls Try.prog 22 #[fp s] w fun e w' => e = .returned (.tuple #[aggV ⟨0, 0⟩, .int .i64 6]) ∧ Below w.heap.size w w' := by
  have HT := Lib.hid (ftop_none (frs_below h (b_alloc (Below.refl w.heap.size w) (.cells #[.int .i64 0, .int .u64 0] VALT))))
  clear h
  unfold aggV fp at *
  go_enter Try.func22, Try.ntmps22
  go_wp2_with fail
  refine HT.out.mono ?_
  rintro e w1 ⟨rfl, rfl⟩
  go_wp2_with fail
  exact bodyPost_ret (v := .tuple #[.agg #[.int .i64 0, .int .u64 0], .int .i64 6]) (by simp [results, Try.results22, go_sem]) rfl ⟨rfl, by (repeat' (first | exact Below.refl _ _ | assumption | refine b_alloc ?_ _ | refine b_over ?_ _ | refine b_drew ?_ | refine b_call ?_ (by assumption)))⟩
theorem fr_cells (h : FrOk w0.heap.size w d m) : w.cell? ⟨d.b, 0, none⟩ = some (.int .i64 m.f) ∧ w.cell? ⟨d.b, 1, none⟩ = some (.int .i64 m.at_) ∧ w.cell? ⟨d.b, 2, none⟩ = some (.slice d.lv.a m.loc.length d.lv.c) ∧ w.cell? ⟨d.b, 3, none⟩ = some (.slice d.sv.a m.stk.length d.sv.c) ∧ (∀ i, w.frozen? ⟨d.b, i, none⟩ = false) := by
  obtain ⟨c0, c1, c2, c3, cf⟩ := blk4 h.hd
  rw [(own_sl h.l).1] at c2
  rw [(own_sl h.s).1] at c3
  exact ⟨c0, c1, c2, c3, cf⟩
theorem fpop_empty (h : FrsAt w0 w s p lv (ds ++ [d]) (L ++ [m])) (hm : m.stk = []) : Calls Try.prog 22 #[fp s] w fun e w' => e = .returned (.tuple #[aggV ⟨0, 0⟩, .int .i64 6]) ∧ Below w.heap.size w w' := by
  have h1 := frs_below h (b_alloc (Below.refl w.heap.size w) (.cells #[.int .i64 0, .int .u64 0] VALT))
  have HT := Lib.hid (ftop_any h1)
  obtain ⟨_, _, _, c3, _⟩ := fr_cells (frs_ok h)
  have hl := (frs_ok h).hd.1
  rw [hm] at c3
  simp only [List.length_nil] at c3
  clear h h1 hm
  unfold aggV fp at *
  go_enter Try.func22, Try.ntmps22
  go_wp2_with fail
  refine HT.out.mono ?_
  rintro e w1 ⟨rfl, rfl⟩
  go_wp2_with fail
  exact bodyPost_ret (v := .tuple #[.agg #[.int .i64 0, .int .u64 0], .int .i64 6]) (by simp [results, Try.results22, go_sem]) rfl ⟨rfl, by (repeat' (first | exact Below.refl _ _ | assumption | refine b_alloc ?_ _ | refine b_over ?_ _ | refine b_drew ?_ | refine b_call ?_ (by assumption)))⟩
def PopEnd (w0 w : World) (s : Nat) (p : PrV) (lv : Sl) (ds : List FrD) (L : List FrM) (d : FrD) (m : FrM) (S : List ValM) (v : ValM) (e : Ending) (w' : World) : Prop :=
  e = .returned (.tuple #[aggV v, .int .i64 0]) ∧ FrsAt w0 w' s p lv (ds ++ [⟨d.b, d.lv, ⟨d.sv.a, S.length, d.sv.c⟩⟩]) (L ++ [⟨m.f, m.at_, m.loc, S⟩]) ∧ GrT w w'
set_option maxRecDepth 100000 in
theorem fpop_any {S : List ValM} {v : ValM} (h : FrsAt w0 w s p lv (ds ++ [d]) (L ++ [m])) (hm : m.stk = S ++ [v]) : Calls Try.prog 22 #[fp s] w (PopEnd w0 w s p lv ds L d m S v) := by
  have h1 := frs_below h (b_alloc (Below.refl w.heap.size w) (.cells #[.int .i64 0, .int .u64 0] VALT))
  have HT := Lib.hid (ftop_any h1)
  have hO := frs_ok h
  obtain ⟨_, _, _, c3, cf⟩ := fr_cells hO
  have hl := hO.hd.1
  have ho := hO.s
  obtain ⟨n1, n2, n3⟩ := own_sl ho
  have hsl : m.stk.length = S.length + 1 := by rw [hm]; simp
  rw [hm] at ho
  obtain ⟨g, cap, e, _, hgl, _, _, hB⟩ := ownR_form ho (by simp)
  have ea : d.sv.a = some ⟨g, 0, none⟩ := by
    have e2 : Value.slice d.sv.a d.sv.n d.sv.c = .slice (some ⟨g, 0, none⟩) (S ++ [v]).length cap := e
    injection e2
  have hgT : g ≠ d.b := fun e2 => by
    have t1 := frOk_ty hO g (Or.inr (by unfold Sl.v; rw [ea]; rfl))
    rw [e2, hO.ty] at t1; injection t1 with t1; exact absurd t1 (by decide)
  have hr := readR_blk (c := valE) hB (Nat.le_refl _) (by rw [← hm]; omega)
  obtain ⟨b', o, c', e5, _, _, _, h9⟩ := valR_pos hr (by simp)
  cases e5
  obtain ⟨v0, v1⟩ := h9 S.length (by simp)
  rw [List.getElem_append_right (Nat.le_refl _)] at v0 v1
  simp only [Nat.sub_self, List.getElem_cons_zero, Nat.zero_add] at v0 v1
  rw [hsl, ea] at c3
  have hcap : S.length + 1 ≤ d.sv.c := by rw [← hsl]; exact n2
  have hcap2 := cap_le n3
  have k0 : (0 : Int) ≤ S.length := by omega
  have DONE : Hid (∀ w1, Below (w.setCell ⟨d.b, 3, none⟩ (.slice (some ⟨g, 0, none⟩) S.length d.sv.c)).heap.size (w.setCell ⟨d.b, 3, none⟩ (.slice (some ⟨g, 0, none⟩) S.length d.sv.c)) w1 → PopEnd w0 w s p lv ds L d m S v (.returned (.tuple #[aggV v, .int .i64 0])) w1) := by
    intro w1 hb1
    have q := pop_ok (frs_ok h) hm
    rw [ea] at q
    obtain ⟨q1, q2⟩ := frs_head (d' := ⟨d.b, d.lv, ⟨some ⟨g, 0, none⟩, S.length, d.sv.c⟩⟩) h rfl (fun k hk => hk.elim Or.inl (fun e => Or.inr (by unfold Sl.v at *; rw [ea]; exact e))) q
    refine ⟨rfl, ?_, grT_trans q2 (grT_below hb1)⟩
    rw [ea]; exact frs_below q1 hb1
  obtain ⟨vk, vb⟩ := v
  simp only at v0 v1
  clear h h1 hm ho hO n1 n2 n3 hsl e hB hr h9 ea
  generalize S.length = N at *
  unfold aggV fp at *
  go_enter Try.func22, Try.ntmps22
  go_wp2_with fail
  refine HT.out.mono ?_
  rintro e w1 ⟨rfl, rfl⟩
  go_wp2_with fail
  exact bodyPost_ret (v := .tuple #[.agg #[.int .i64 vk, .int .u64 vb], .int .i64 0]) (by simp [results, Try.results22, go_sem]) rfl (DONE.out _ (by (repeat' (first | exact Below.refl _ _ | assumption | refine b_alloc ?_ _ | refine b_over ?_ _ | refine b_drew ?_ | refine b_call ?_ (by assumption)))))
theorem push_done {v : ValM} {W2 w3 : World} {g cap : Nat} (h : FrsAt w0 w s p lv (ds ++ [d]) (L ++ [m])) (hb : Below w.heap.size w W2) (hown : OwnR valE VALT w3 w0.heap.size (.slice (some ⟨g, 0, none⟩) (m.stk.length + 1) cap) (m.stk ++ [v])) (hg : W2.grownBy w3 d.sv.v.ownBlock) (hor : d.sv.v.ownBlock = some g ∨ g = W2.heap.size) :
    FrsAt w0 (w3.setCell ⟨d.b, 3, none⟩ (.slice (some ⟨g, 0, none⟩) (m.stk.length + 1) cap)) s p lv (ds ++ [⟨d.b, d.lv, ⟨some ⟨g, 0, none⟩, m.stk.length + 1, cap⟩⟩]) (L ++ [⟨m.f, m.at_, m.loc, m.stk ++ [v]⟩]) ∧ GrT w (w3.setCell ⟨d.b, 3, none⟩ (.slice (some ⟨g, 0, none⟩) (m.stk.length + 1) cap)) := by
  have h2 := frs_below h hb
  have hO := frs_ok h2
  have g1 : GrowX W2 w3 (fun j => d.sv.v.ownBlock = some j) := gx_gb (X := fun j => d.sv.v.ownBlock = some j) hg (fun k e => e)
  have nb : ¬ d.sv.v.ownBlock = some d.b := fun e => ownR_ne hO.s hO.ty (by decide) d.b e rfl
  have hO3h := blk_gx hO.hd g1 nb
  have hO3t := tyB_gx hO.ty g1 nb
  have l3 := ownR_gx hO.l g1 (fun k hk e => hO.ne k hk e)
  have g2 : GrowX w3 (w3.setCell ⟨d.b, 3, none⟩ (.slice (some ⟨g, 0, none⟩) (m.stk.length + 1) cap)) (fun j => j = d.b) := gx_set (X := fun j => j = d.b) (gx_refl _ _) (Or.inr rfl) _
  have g3 : GrowX W2 (w3.setCell ⟨d.b, 3, none⟩ (.slice (some ⟨g, 0, none⟩) (m.stk.length + 1) cap)) (fun j => j = d.b ∨ d.owns j) := gx_trans g1 g2 (fun k _ e => Or.inr (Or.inr e)) (fun k _ e => Or.inl e)
  have hOk : FrOk w0.heap.size (w3.setCell ⟨d.b, 3, none⟩ (.slice (some ⟨g, 0, none⟩) (m.stk.length + 1) cap)) ⟨d.b, d.lv, ⟨some ⟨g, 0, none⟩, m.stk.length + 1, cap⟩⟩ ⟨m.f, m.at_, m.loc, m.stk ++ [v]⟩ := by
    refine ⟨blk_set hO3h 3 _, by rw [tyB_set]; exact hO3t, ownR_gx l3 g2 (fun k hk e => ownR_ne l3 hO3t (by decide) k hk e), ownR_gx hown g2 (fun k hk e => ownR_ne hown hO3t (by decide) k hk e), fun k hk e => ?_, hO.lo⟩
    have e1 : g = k := by have e2 : some g = some k := e; injection e2
    subst e1
    rcases hor with q | q
    · exact hO.ne g hk q
    · have := (ownR_lt hO.l g hk).2; omega
  refine ⟨frs_top h2 g3 hOk rfl (fun k hk => ?_), grT_trans (grT_below hb) (grT_of g3 (fun j _ e => ?_))⟩
  · rcases hk with hk | hk
    · exact Or.inl (Or.inl hk)
    · have e1 : g = k := by have e2 : some g = some k := hk; injection e2
      subst e1
      rcases hor with q | q
      · exact Or.inl (Or.inr q)
      · exact Or.inr (by omega)
  · rcases e with e | e
    · rw [e]; exact Or.inr (Or.inr (Or.inl hO.ty))
    · exact Or.inr (Or.inr (Or.inr (frOk_ty hO j e)))
theorem fpush_none (h : FrsAt w0 w s p lv ds []) (v : ValM) : Calls Try.prog 19 #[fp s, aggV v] w fun e w' => e = .returned (.int .i64 6) ∧ Below w.heap.size w w' := by
  obtain ⟨vk, vb⟩ := v
  have HT := Lib.hid (ftop_none (frs_below h (b_alloc (Below.refl w.heap.size w) (.cells #[.int .i64 vk, .int .u64 vb] VALT))))
  clear h
  unfold aggV fp at *
  go_enter Try.func19, Try.ntmps19
  go_wp2_with fail
  refine HT.out.mono ?_
  rintro e w1 ⟨rfl, rfl⟩
  go_wp2_with fail
  go_ret
  exact ⟨rfl, by (repeat' (first | exact Below.refl _ _ | assumption | refine b_alloc ?_ _ | refine b_over ?_ _ | refine b_drew ?_ | refine b_call ?_ (by assumption)))⟩
theorem fpush_full (h : FrsAt w0 w s p lv (ds ++ [d]) (L ++ [m])) (v : ValM) (hm : m.stk.length = 16) : Calls Try.prog 19 #[fp s, aggV v] w fun e w' => e = .returned (.int .i64 5) ∧ Below w.heap.size w w' := by
  obtain ⟨vk, vb⟩ := v
  have h1 := frs_below h (b_alloc (Below.refl w.heap.size w) (.cells #[.int .i64 vk, .int .u64 vb] VALT))
  have HT := Lib.hid (ftop_any h1)
  obtain ⟨_, _, _, c3, _⟩ := fr_cells (frs_ok h)
  have hl := (frs_ok h).hd.1
  rw [hm] at c3
  clear h h1 hm
  unfold aggV fp at *
  go_enter Try.func19, Try.ntmps19
  go_wp2_with fail
  refine HT.out.mono ?_
  rintro e w1 ⟨rfl, rfl⟩
  go_wp2_with fail
  go_ret
  exact ⟨rfl, by (repeat' (first | exact Below.refl _ _ | assumption | refine b_alloc ?_ _ | refine b_over ?_ _ | refine b_drew ?_ | refine b_call ?_ (by assumption)))⟩
def PushEnd (w0 w : World) (s : Nat) (p : PrV) (lv : Sl) (ds : List FrD) (L : List FrM) (d : FrD) (m : FrM) (v : ValM) (e : Ending) (w' : World) : Prop :=
  e = .returned (.int .i64 0) ∧ (∃ d', FrsAt w0 w' s p lv (ds ++ [d']) (L ++ [⟨m.f, m.at_, m.loc, m.stk ++ [v]⟩])) ∧ GrT w w'
set_option maxRecDepth 100000 in
theorem fpush_any (h : FrsAt w0 w s p lv (ds ++ [d]) (L ++ [m])) (v : ValM) (hm : m.stk.length < 16) : Calls Try.prog 19 #[fp s, aggV v] w (PushEnd w0 w s p lv ds L d m v) := by
  have HV : Hid (Blk (w.alloc (.cells #[.int .i64 v.k, .int .u64 v.b] VALT)) w.heap.size (valE.cells v)) := blk_new _ _ _
  have h1 := frs_below h (b_alloc (Below.refl w.heap.size w) (.cells #[.int .i64 v.k, .int .u64 v.b] VALT))
  have HT := Lib.hid (ftop_any h1)
  obtain ⟨_, _, _, c3, cf⟩ := fr_cells (frs_ok h)
  have hl := (frs_ok h).hd.1
  have HO := Lib.hid (frs_ok h1)
  have H := Lib.hid h
  have hm2 : ¬ ((m.stk.length : Int) = 16) := by omega
  have hm3 : ((m.stk.length : Int) == 16) = false := by rw [beq_eq_false_iff_ne]; exact hm2
  have hm4 := Lib.hid hm
  have hB0 : Hid (w0.heap.size ≤ w.heap.size) := h.be.size
  have hsv : d.sv.v = .slice d.sv.a m.stk.length d.sv.c := by unfold Sl.v; rw [(own_sl (frs_ok h).s).1]
  have HSV := Lib.hid hsv
  have PZ : Hid (∀ W2 w7 : World, Below (w.alloc (.cells #[.int .i64 v.k, .int .u64 v.b] VALT)).heap.size (w.alloc (.cells #[.int .i64 v.k, .int .u64 v.b] VALT)) W2 → W2.grownBy w7 (Value.slice d.sv.a m.stk.length d.sv.c).ownBlock → w7.cell? ⟨d.b, 3, none⟩ = some (.slice d.sv.a m.stk.length d.sv.c) ∧ ∀ i, w7.frozen? ⟨d.b, i, none⟩ = false) := by
    intro W2 w7 hb hg
    have hO2 := frs_ok (frs_below h1 hb)
    obtain ⟨_, _, _, z3, zf⟩ := fr_cells hO2
    have nb : some d.b ≠ (Value.slice d.sv.a m.stk.length d.sv.c).ownBlock := by
      intro e
      rw [← hsv] at e
      exact ownR_ne hO2.s hO2.ty (by decide) d.b e.symm rfl
    have q := blk_grown hO2.hd hg nb
    obtain ⟨_, _, _, y3, yf⟩ := blk4 q
    rw [(own_sl hO2.s).1] at y3
    exact ⟨y3, yf⟩
  have PD : Hid (∀ W2 w7 : World, ∀ g cap, Below w.heap.size w W2 → OwnR valE VALT w7 w0.heap.size (.slice (some ⟨g, 0, none⟩) (m.stk.length + 1) cap) (m.stk ++ [v]) → W2.grownBy w7 (Value.slice d.sv.a m.stk.length d.sv.c).ownBlock → ((Value.slice d.sv.a m.stk.length d.sv.c).ownBlock = some g ∨ g = W2.heap.size) → PushEnd w0 w s p lv ds L d m v (.returned (.int .i64 0)) (w7.setCell ⟨d.b, 3, none⟩ (.slice (some ⟨g, 0, none⟩) (m.stk.length + 1) cap))) := by
    intro W2 w7 g cap hb ho hg hor
    rw [← hsv] at hg hor
    obtain ⟨q1, q2⟩ := push_done h hb ho hg hor
    exact ⟨rfl, ⟨_, q1⟩, q2⟩
  clear h h1 hm2 hm hsv
  unfold aggV fp at *
  go_enter Try.func19, Try.ntmps19
  go_wp2_with fail
  refine HT.out.mono ?_
  rintro e w1 ⟨rfl, rfl⟩
  go_wp2_with fail
  go_region_law (refine step_append1 (c := valE) valT (by rfl) _ _ (by rfl) (by rfl) (v := .slice d.sv.a m.stk.length d.sv.c) (L := m.stk) (B := w0.heap.size) (by rw [← HSV.out]; exact ownR_below HO.out.s (by (repeat' (first | exact Below.refl _ _ | assumption | refine b_alloc ?_ _ | refine b_over ?_ _ | refine b_drew ?_ | refine b_call ?_ (by assumption))))) v _ 1 (by rfl) (blk_new3 (by simp)) ?c1 ?c2 ?c3 ?_; (case c1 => (have := hm4.out; omega)); (case c2 => (unfold maxLen; have := hm4.out; omega)); (case c3 => (simp; have := hB0.out; omega)); intro g cap w7 ho7 hg7 hor7 hl7; obtain ⟨z3, zf⟩ := PZ.out _ w7 (by (repeat' (first | exact Below.refl _ _ | assumption | refine b_alloc ?_ _ | refine b_over ?_ _ | refine b_drew ?_ | refine b_call ?_ (by assumption)))) hg7; have D7 := Lib.hid (PD.out _ w7 g cap (by (repeat' (first | exact Below.refl _ _ | assumption | refine b_alloc ?_ _ | refine b_over ?_ _ | refine b_drew ?_ | refine b_call ?_ (by assumption)))) ho7 hg7 hor7); clear ho7 hg7 hor7)
  all_goals
    go_wp2_with fail
    go_ret
    exact D7.out
end Go.Proofs.Ytdmidnmciaediaa
