/- Layer 28: the document's frames in memory; the contract of with. Conditions: those stated. Layer 28: the contracts of the document's Return, Local. Conditions: those stated. Layer 28: the contract of the document's Push. Conditions: those stated. -/
import Derived.Test.YtdmidnmciaediaaWFrm1
import Derived.Test.YtdmidnmciaediaaWHeldE
import Derived.Test.YtdmidnmciaediaaWTypP
import Derived.Deep.DeepCutAuto
import Derived.Deep.RegionLaw
import Derived.Deep.RegionLawGrows
import Derived.BigQuiet
namespace Go.Proofs.Ytdmidnmciaediaa
section
open Go.RowKit
set_option linter.unusedVariables false
set_option linter.unusedSimpArgs false
attribute [local go_sem] over_cell over_frozen
theorem wpAnyE_named {P : Program} {ops : Array Oper} {Q : Exit → Act → World → Prop} {md : Region.Mode} {S : World → Prop} {T : Nat} {fuel : Nat} {listed : Array Bool} {a : Act} {w : World} (h : ∀ w1, w1 = w → wpAnyE P md ops Q S T fuel listed a w1) : wpAnyE P md ops Q S T fuel listed a w := h w rfl
theorem thenF_named {K : Act → World → Prop} {Q : Exit → Act → World → Prop} {a : Act} {w : World} (h : ∀ w1, w1 = w → Exit.then K Q Exit.normal a w1) : Exit.then K Q Exit.normal a w := h w rfl
theorem boxF2 (w : World) (c1 c2 : Array Value) (T1 T2 : TypeId) : Blk ((w.alloc (.cells c1 T1)).alloc (.cells c2 T2)) w.heap.size c1.toList ∧ Blk ((w.alloc (.cells c1 T1)).alloc (.cells c2 T2)) (w.heap.size + 1) c2.toList ∧ Below w.heap.size w ((w.alloc (.cells c1 T1)).alloc (.cells c2 T2)) := by
  refine ⟨blk_alloc (blk_new _ _ _) _, ?_, b_alloc (b_alloc (Below.refl _ _) _) _⟩
  have z := blk_new (w.alloc (.cells c1 T1)) c2 T2
  rw [World.size_alloc] at z
  exact z
def VRT : TypeId := 54
def RFT : TypeId := 60
def RFS : TypeId := 53
theorem rowVR : IsRow Try.prog 55 VRT 2 16 (.agg #[.int .i64 0, .int .u64 0]) := ⟨Try.underlying55, by kernel_rfl, by rfl⟩
structure RfV where
  f : Int
  at_ : Int
  l : Sl
  s : Sl
def frmE : Elt RfV where
  cells := fun v => [.int .i64 v.f, .int .i64 v.at_, .slice v.l.a v.l.n v.l.c, .slice v.s.a v.s.n v.s.c]
  size := 4
  pos := by decide
  len := fun _ => rfl
  one := fun f u hu => by
    simp only [List.mem_cons, List.not_mem_nil, or_false] at hu
    rcases hu with rfl | rfl | rfl | rfl <;> rfl
theorem rowRF : IsRow Try.prog 51 RFT 4 64 (.agg #[.int .i64 0, .int .i64 0, .slice none 0 0, .slice none 0 0]) := ⟨Try.underlying51, by kernel_rfl, by rfl⟩
/-- A frame of the document's: its lists. -/
structure RfOk (w : World) (v : RfV) (m : FrM) : Prop where
  f : v.f = m.f
  a : v.at_ = m.at_
  l : ReadR valE w (.slice v.l.a v.l.n v.l.c) m.loc
  lt : slOk w VRT v.l.a v.l.n
  s : ReadR valE w (.slice v.s.a v.s.n v.s.c) m.stk
  st : slOk w VRT v.s.a v.s.n
/-- Blocks of a type that never turns. -/
theorem rfOk_keep {w w' : World} {v : RfV} {m : FrM} (h : RfOk w v m) (hs : w.heap.size ≤ w'.heap.size) (hk : ∀ k, tyB w k = some VRT → w'.heap[k]? = w.heap[k]?) : RfOk w' v m :=
  ⟨h.f, h.a, readR_apart h.l h.lt hs hk, slOk_keep h.lt (fun k hk' => by rw [tyB_block (hk k hk')]; exact hk'), readR_apart h.s h.st hs hk, slOk_keep h.st (fun k hk' => by rw [tyB_block (hk k hk')]; exact hk')⟩
theorem rfOk_below {w w' : World} {v : RfV} {m : FrM} (h : RfOk w v m) (hb : Below w.heap.size w w') : RfOk w' v m := rfOk_keep h hb.size (fun k hk => hb.block k (tyB_lt hk))
def RfRow (w : World) (lv : Sl) (L : List FrM) : Prop := ∃ V : List RfV, ReadR frmE w (.slice lv.a lv.n lv.c) V ∧ slOk w RFT lv.a lv.n ∧ V.length = L.length ∧ ∀ k, (h : k < V.length) → (h' : k < L.length) → RfOk w V[k] L[k]
theorem rfRow_keep {w w' : World} {lv : Sl} {L : List FrM} (h : RfRow w lv L) (hs : w.heap.size ≤ w'.heap.size) (hk : ∀ k, tyB w k = some VRT ∨ tyB w k = some RFT → w'.heap[k]? = w.heap[k]?) : RfRow w' lv L := by
  obtain ⟨V, h1, h2, h3, h4⟩ := h
  exact ⟨V, readR_apart h1 h2 hs (fun k q => hk k (Or.inr q)), slOk_keep h2 (fun k hk' => by rw [tyB_block (hk k (Or.inr hk'))]; exact hk'), h3, fun k a b => rfOk_keep (h4 k a b) hs (fun k q => hk k (Or.inl q))⟩
/-- The document's frames: at block r. -/
structure DocF (w0 w : World) (r : Nat) (q : PrV) (lv : Sl) (L : List FrM) : Prop where
  be : Below w0.heap.size w0 w
  hd : Blk w r [.bool q.u, .slice q.g.a q.g.n q.g.c, .int .i64 q.m, .slice q.f.a q.f.n q.f.c, .slice lv.a lv.n lv.c]
  ty : tyB w r = some RFS
  lo : w0.heap.size ≤ r
  row : RfRow w lv L
def rp (b : Nat) : Value := .pointer (some ⟨b, 0, none⟩)
variable {w0 w w' : World} {r : Nat} {q : PrV} {lv : Sl} {L : List FrM} {m : FrM}
theorem doc_below (h : DocF w0 w r q lv L) (hb : Below w.heap.size w w') : DocF w0 w' r q lv L :=
  ⟨b_call h.be hb, blk_below h.hd hb, tyB_call h.ty hb, h.lo, rfRow_keep h.row hb.size (fun k hk => hb.block k (hk.elim tyB_lt tyB_lt))⟩
/-- The program's frames turn. -/
theorem doc_grT (h : DocF w0 w r q lv L) (hg : GrT w w') (hb : Below w0.heap.size w0 w') : DocF w0 w' r q lv L := by
  have hx : ∀ k T, tyB w k = some T → T ≠ FRST → T ≠ FPTT → T ≠ FRMT → T ≠ VALT → ¬ FrTy w k := fun k T hk h1 h2 h3 h4 hf => by
    unfold FrTy at hf
    rw [hk] at hf
    rcases hf with e | e | e | e <;> (injection e with e; first | exact h1 e | exact h2 e | exact h3 e | exact h4 e)
  have hr := hx r RFS h.ty (by decide) (by decide) (by decide) (by decide)
  exact ⟨hb, blk_gx h.hd hg hr, tyB_gx h.ty hg hr, h.lo, rfRow_keep h.row hg.size (fun k hk => hk.elim (fun e => hg.block k (tyB_lt e) (hx k VRT e (by decide) (by decide) (by decide) (by decide))) (fun e => hg.block k (tyB_lt e) (hx k RFT e (by decide) (by decide) (by decide) (by decide))))⟩
theorem doc_len (h : DocF w0 w r q lv L) : lv.n = L.length ∧ L.length ≤ lv.c ∧ (lv.c : Int) ≤ 9223372036854775807 := by
  obtain ⟨V, h1, _, h3, _⟩ := h.row
  obtain ⟨a, cap, e, e2, e3⟩ := readR_len h1
  injection e with _ e4 e5
  have := cap_le e3
  exact ⟨by omega, by omega, by omega⟩
/-- The box and its row. -/
structure DocR (w : World) (r : Nat) (q : PrV) (lv : Sl) (V : List RfV) : Prop where
  hd : Blk w r [.bool q.u, .slice q.g.a q.g.n q.g.c, .int .i64 q.m, .slice q.f.a q.f.n q.f.c, .slice lv.a lv.n lv.c]
  ty : tyB w r = some RFS
  rd : ReadR frmE w (.slice lv.a lv.n lv.c) V
  rt : slOk w RFT lv.a lv.n
variable {V : List RfV} {x : RfV}
theorem docR_below (h : DocR w r q lv V) (hb : Below w.heap.size w w') : DocR w' r q lv V :=
  ⟨blk_below h.hd hb, tyB_call h.ty hb, readR_below h.rd hb, slOk_keep h.rt (fun k hk => tyB_call hk hb)⟩
/-- A block of another type turns. -/
theorem docR_set {p : Addr} {T : TypeId} (h : DocR w r q lv V) (hT : tyB w p.block = some T) (h1 : T ≠ RFS) (h2 : T ≠ RFT) (u : Value) : DocR (w.setCell p u) r q lv V := by
  have hr : p.block ≠ r := fun e => by rw [e, h.ty] at hT; injection hT with hT; exact h1 hT.symm
  have hk : ∀ k, tyB w k = some RFT → (w.setCell p u).heap[k]? = w.heap[k]? := fun k hk => Below.heap_setCell _ _ _ _ (fun e => by rw [← e, hk] at hT; injection hT with hT; exact h2 hT.symm)
  exact ⟨blk_other h.hd hr u, by rw [tyB_set]; exact h.ty, readR_apart h.rd h.rt (by simp) hk, slOk_keep h.rt (fun k q => by rw [tyB_set]; exact q)⟩
theorem docR_len (h : DocR w r q lv V) : lv.n = V.length ∧ V.length ≤ lv.c ∧ (lv.c : Int) ≤ 9223372036854775807 := by
  obtain ⟨a, cap, e, e2, e3⟩ := readR_len h.rd
  injection e with _ e4 e5
  have := cap_le e3
  exact ⟨by omega, by omega, by omega⟩
theorem doc_R (h : DocF w0 w r q lv L) : ∃ V, DocR w r q lv V ∧ V.length = L.length ∧ ∀ k, (h : k < V.length) → (h' : k < L.length) → RfOk w V[k] L[k] := by
  obtain ⟨V, h1, h2, h3, h4⟩ := h.row
  exact ⟨V, ⟨h.hd, h.ty, h1, h2⟩, h3, h4⟩
theorem doc_R2 (h : DocF w0 w r q lv (L ++ [m])) : ∃ V x, DocR w r q lv (V ++ [x]) ∧ V.length = L.length ∧ (∀ k, (h : k < V.length) → (h' : k < L.length) → RfOk w V[k] L[k]) ∧ RfOk w x m := by
  obtain ⟨V, h1, h3, h4⟩ := doc_R h
  rw [List.length_append, List.length_singleton] at h3
  have hn : L.length < V.length := by omega
  have e : V.take L.length ++ [V[L.length]] = V := by rw [← List.take_succ_eq_append_getElem hn, List.take_of_length_le (by omega)]
  refine ⟨V.take L.length, V[L.length], by rw [e]; exact h1, by rw [List.length_take]; omega, fun k hk hk' => ?_, ?_⟩
  · have z := h4 k (by omega) (by rw [List.length_append]; omega)
    rw [List.getElem_append_left hk'] at z
    rw [List.getElem_take]; exact z
  · have z := h4 L.length (by omega) (by rw [List.length_append, List.length_singleton]; omega)
    rw [List.getElem_append_right (Nat.le_refl _)] at z
    simp only [Nat.sub_self, List.getElem_cons_zero] at z
    exact z
theorem doc_less (h : DocF w0 w r q lv L) (hg : GrowX w w' (fun j => j = r)) {lv' : Sl} {L' : List FrM} {V : List RfV} (hd : DocR w' r q lv' V) (hl : V.length = L'.length) (hv : ∀ k, (h : k < V.length) → (h' : k < L'.length) → RfOk w' V[k] L'[k]) : DocF w0 w' r q lv' L' :=
  ⟨b_gx h.be hg (fun k e => by rw [e]; exact h.lo), hd.hd, hd.ty, h.lo, V, hd.rd, hd.rt, hl, hv⟩
theorem rfOk_gx {v : RfV} (hd : tyB w r = some RFS) (h : RfOk w v m) (hg : GrowX w w' (fun j => j = r)) : RfOk w' v m :=
  rfOk_keep h hg.size (fun k hk => hg.block k (tyB_lt hk) (fun e => by rw [e, hd] at hk; injection hk with hk; exact absurd hk (by decide)))
/-- The topmost one is another one. -/
theorem doc_with (h : DocF w0 w r q lv (L ++ [m])) (hg : GrowX w w' (fun j => j = r)) {lv' : Sl} {V : List RfV} {v : RfV} {m' : FrM} (hl : V.length = L.length) (hk : ∀ k, (h : k < V.length) → (h' : k < L.length) → RfOk w V[k] L[k]) (hd : DocR w' r q lv' (V ++ [v])) (hv : RfOk w' v m') : DocF w0 w' r q lv' (L ++ [m']) := by
  refine doc_less h hg hd (by simp [hl]) (fun k a b => ?_)
  by_cases e : k < V.length
  · rw [List.getElem_append_left e, List.getElem_append_left (by omega)]
    exact rfOk_gx h.ty (hk k e (by omega)) hg
  · have e2 : k = V.length := by simp at a; omega
    subst e2
    rw [List.getElem_append_right (Nat.le_refl _), List.getElem_append_right (by omega)]
    simpa [hl] using hv
theorem doc_more (h : DocF w0 w r q lv L) (hg : GrowX w w' (fun j => j = r)) {lv' : Sl} {V : List RfV} {v : RfV} {m' : FrM} (hl : V.length = L.length) (hk : ∀ k, (h : k < V.length) → (h' : k < L.length) → RfOk w V[k] L[k]) (hd : DocR w' r q lv' (V ++ [v])) (hv : RfOk w' v m') : DocF w0 w' r q lv' (L ++ [m']) := by
  refine doc_less h hg hd (by simp [hl]) (fun k a b => ?_)
  by_cases e : k < V.length
  · rw [List.getElem_append_left e, List.getElem_append_left (by omega)]
    exact rfOk_gx h.ty (hk k e (by omega)) hg
  · have e2 : k = V.length := by simp at a; omega
    subst e2
    rw [List.getElem_append_right (Nat.le_refl _), List.getElem_append_right (by omega)]
    simpa [hl] using hv
/-- Another row takes the place of the elder one. -/
theorem docR_put {w1 : World} {lv' : Sl} {V' : List RfV} (h : DocR w r q lv V) (hb : Below w.heap.size w w1) (hr : ReadR frmE w1 (.slice lv'.a lv'.n lv'.c) V') (ht : slOk w1 RFT lv'.a lv'.n) : DocR (w1.setCell ⟨r, 4, none⟩ (.slice lv'.a lv'.n lv'.c)) r q lv' V' ∧ GrowX w (w1.setCell ⟨r, 4, none⟩ (.slice lv'.a lv'.n lv'.c)) (fun j => j = r) := by
  have h1 := docR_below h hb
  have hx := gx_set (gx_below hb (fun j => j = r)) (p := ⟨r, 4, none⟩) (Or.inr rfl) (.slice lv'.a lv'.n lv'.c)
  have hk : ∀ k, tyB w1 k = some RFT → (w1.setCell ⟨r, 4, none⟩ (.slice lv'.a lv'.n lv'.c)).heap[k]? = w1.heap[k]? := fun k hk => Below.heap_setCell _ _ _ _ (by
    show k ≠ r
    intro e
    rw [e, h1.ty] at hk
    injection hk with hk
    exact absurd hk (by decide))
  exact ⟨⟨blk_set h1.hd 4 _, by rw [tyB_set]; exact h1.ty, readR_apart hr ht (by simp) hk, slOk_keep ht (fun k z => by rw [tyB_set]; exact z)⟩, hx⟩
def aggRf (v : RfV) : Value := .agg #[.int .i64 v.f, .int .i64 v.at_, .slice v.l.a v.l.n v.l.c, .slice v.s.a v.s.n v.s.c]
def WithEnd (w : World) (r : Nat) (q : PrV) (V : List RfV) (e : Ending) (w' : World) : Prop := e = .returned (.tuple #[]) ∧ ∃ lv', DocR w' r q lv' V ∧ GrowX w w' (fun j => j = r)
set_option maxRecDepth 100000 in
set_option maxHeartbeats 4000000 in
theorem rwith_any (h : DocR w r q lv (V ++ [x])) (v : RfV) (hL : V.length ≤ 24) : Calls Try.prog 93 #[rp r, aggRf v] w (WithEnd w r q (V ++ [v])) := by
  obtain ⟨n1, n2, n3⟩ := docR_len h
  rw [List.length_append, List.length_singleton] at n1 n2
  obtain ⟨u, ⟨ga, gn, gc⟩, qm, ⟨fa, fn, fc⟩⟩ := q
  obtain ⟨la, ln, lc⟩ := lv
  obtain ⟨vf, va, ⟨wa, wn, wc⟩, ⟨ya, yn, yc⟩⟩ := v
  simp only at n1 n2 n3
  subst n1
  have HD := Lib.hid h
  have HFIN : Hid (∀ (q9 : World) g cap, Below w.heap.size w q9 → OwnR frmE RFT q9 w.heap.size (.slice (some ⟨g, 0, none⟩) (V.length + 1) cap) (V ++ [⟨vf, va, ⟨wa, wn, wc⟩, ⟨ya, yn, yc⟩⟩]) → WithEnd w r ⟨u, ⟨ga, gn, gc⟩, qm, ⟨fa, fn, fc⟩⟩ (V ++ [⟨vf, va, ⟨wa, wn, wc⟩, ⟨ya, yn, yc⟩⟩]) (.returned (.tuple #[])) (q9.setCell ⟨r, 4, none⟩ (.slice (some ⟨g, 0, none⟩) (V.length + 1) cap))) := Lib.hid (fun q9 g cap h3 h4 => by
    have z := docR_put h h3 (lv' := ⟨some ⟨g, 0, none⟩, V.length + 1, cap⟩) (ownR_read h4) (Or.inr ⟨g, rfl, ownR_ty h4 g rfl⟩)
    exact ⟨rfl, _, z.1, z.2⟩)
  have HTK : Hid (∀ w', Below w.heap.size w w' → ReadR frmE w' (.slice la V.length lc) V) := Lib.hid (fun w' hb => by
    have z := readR_below (readR_take (n := V.length) h.rd (by rw [List.length_append]; omega)) hb
    rw [List.take_left] at z
    exact z)
  have HLL : Hid (V.length ≤ 24) := Lib.hid hL
  have hrl := h.hd.1
  have nl : (V.length : Int) ≤ 24 := by omega
  have ncl : (V.length : Int) ≤ lc := by omega
  have ncl1 : (V.length : Int) + 1 ≤ lc := by omega
  have wl : IntKind.i64.wrap (V.length : Int) = V.length := by rw [IntKind.wrap_i64]; omega
  have nl0 : (0 : Int) ≤ V.length := by omega
  clear h hL n2
  unfold rp aggRf
  simp only
  go_enter Try.func93, Try.ntmps93
  go_upto_region 1 with fail
  refine wp_named ?_
  intro W hW
  have X0 : Blk W w.heap.size [.int .i64 vf, .int .i64 va, .slice wa wn wc, .slice ya yn yc] := by rw [hW]; exact blk_new _ _ _
  have HX := Lib.hid X0
  have HBW : Hid (Below w.heap.size w W) := Lib.hid (by rw [hW]; exact b_alloc (Below.refl _ _) _)
  have HBOX : Hid (Blk W r [.bool u, .slice ga gn gc, .int .i64 qm, .slice fa fn fc, .slice la (V.length + 1) lc]) := Lib.hid (blk_below HD.out.hd HBW.out)
  have HS : Hid (∀ w', Below W.heap.size W w' → w'.cell? ⟨r, 4, none⟩ = some (.slice la (V.length + 1) lc) ∧ (w'.cell? ⟨w.heap.size, 0, none⟩ = some (.int .i64 vf) ∧ w'.cell? ⟨w.heap.size, 1, none⟩ = some (.int .i64 va) ∧ w'.cell? ⟨w.heap.size, 2, none⟩ = some (.slice wa wn wc) ∧ w'.cell? ⟨w.heap.size, 3, none⟩ = some (.slice ya yn yc))) := Lib.hid (fun w' hb => by
    obtain ⟨y0, y1, y2, y3, _⟩ := blk4 (blk_below HX.out hb)
    exact ⟨(blk_below HBOX.out hb).2.1 4 (by simp), y0, y1, y2, y3⟩)
  have HTR : Hid (ReadR frmE W (.slice la V.length lc) V) := Lib.hid (HTK.out W HBW.out)
  clear hW X0 hrl
  refine wp_region_E (S := fun w' => w'.cell? ⟨r, 4, none⟩ = some (.slice la (V.length + 1) lc) ∧ (w'.cell? ⟨w.heap.size, 0, none⟩ = some (.int .i64 vf) ∧ w'.cell? ⟨w.heap.size, 1, none⟩ = some (.int .i64 va) ∧ w'.cell? ⟨w.heap.size, 2, none⟩ = some (.slice wa wn wc) ∧ w'.cell? ⟨w.heap.size, 3, none⟩ = some (.slice ya yn yc))) 19 (by kernel_rfl) (HS.out _ (b_drew (Below.refl _ _))) (fun hHeld => ?_)
  (refine wpAnyE_take (n := 12) (i := 0) (v := ?_) rfl (by kernel_rfl) (by kernel_rfl) (by kernel_rfl) (by kernel_rfl) (by kernel_rfl) (fun _ _ _ h => h) (Or.inl ⟨by rfl, ?_⟩) hHeld ?_; rotate_left; (focus (intro w hSw; (try dsimp only at hSw); go_simp; try (with_reducible rfl))); (try simp only [Act.put, List.getElem_toArray, List.getElem_cons_succ, List.getElem_cons_zero, List.setIfInBounds_toArray, List.set_cons_zero, List.set_cons_succ]))
  (refine wpAnyE_take (n := 12) (i := 2) (v := ?_) rfl (by kernel_rfl) (by kernel_rfl) (by kernel_rfl) (by kernel_rfl) (by kernel_rfl) (fun _ _ _ h => h) (Or.inl ⟨by rfl, ?_⟩) hHeld ?_; rotate_left; (focus (intro w hSw; (try dsimp only at hSw); go_simp; try (with_reducible rfl))); (try simp only [Act.put, List.getElem_toArray, List.getElem_cons_succ, List.getElem_cons_zero, List.setIfInBounds_toArray, List.set_cons_zero, List.set_cons_succ]))
  (refine wpAnyE_take (n := 12) (i := 3) (v := ?_) rfl (by kernel_rfl) (by kernel_rfl) (by kernel_rfl) (by kernel_rfl) (by kernel_rfl) (fun _ _ _ h => h) (Or.inl ⟨by rfl, ?_⟩) hHeld ?_; rotate_left; (focus (intro w hSw; (try dsimp only at hSw); go_simp; try (with_reducible rfl))); (try simp only [Act.put, List.getElem_toArray, List.getElem_cons_succ, List.getElem_cons_zero, List.setIfInBounds_toArray, List.set_cons_zero, List.set_cons_succ]))
  (refine wpAnyE_take (n := 12) (i := 4) (v := ?_) rfl (by kernel_rfl) (by kernel_rfl) (by kernel_rfl) (by kernel_rfl) (by kernel_rfl) (fun _ _ _ h => h) (Or.inl ⟨by rfl, ?_⟩) hHeld ?_; rotate_left; (focus (intro w hSw; (try dsimp only at hSw); go_simp; try (with_reducible rfl))); (try simp only [Act.put, List.getElem_toArray, List.getElem_cons_succ, List.getElem_cons_zero, List.setIfInBounds_toArray, List.set_cons_zero, List.set_cons_succ]))
  (refine wpAnyE_take (n := 12) (i := 5) (v := ?_) rfl (by kernel_rfl) (by kernel_rfl) (by kernel_rfl) (by kernel_rfl) (by kernel_rfl) (fun _ _ _ h => h) (Or.inl ⟨by rfl, ?_⟩) hHeld ?_; rotate_left; (focus (intro w hSw; (try dsimp only at hSw); go_simp; try (with_reducible rfl))); (try simp only [Act.put, List.getElem_toArray, List.getElem_cons_succ, List.getElem_cons_zero, List.setIfInBounds_toArray, List.set_cons_zero, List.set_cons_succ]))
  (refine wpAnyE_take (n := 12) (i := 6) (v := ?_) rfl (by kernel_rfl) (by kernel_rfl) (by kernel_rfl) (by kernel_rfl) (by kernel_rfl) (fun _ _ _ h => h) (Or.inl ⟨by rfl, ?_⟩) hHeld ?_; rotate_left; (focus (intro w hSw; (try dsimp only at hSw); go_simp; try (with_reducible rfl))); (try simp only [Act.put, List.getElem_toArray, List.getElem_cons_succ, List.getElem_cons_zero, List.setIfInBounds_toArray, List.set_cons_zero, List.set_cons_succ]))
  (refine wpAnyE_take (n := 12) (i := 7) (v := ?_) rfl (by kernel_rfl) (by kernel_rfl) (by kernel_rfl) (by kernel_rfl) (by kernel_rfl) (fun _ _ _ h => h) (Or.inl ⟨by rfl, ?_⟩) hHeld ?_; rotate_left; (focus (intro w hSw; (try dsimp only at hSw); go_simp; try (with_reducible rfl))); (try simp only [Act.put, List.getElem_toArray, List.getElem_cons_succ, List.getElem_cons_zero, List.setIfInBounds_toArray, List.set_cons_zero, List.set_cons_succ]))
  (refine wpAnyE_take (n := 12) (i := 8) (v := ?_) rfl (by kernel_rfl) (by kernel_rfl) (by kernel_rfl) (by kernel_rfl) (by kernel_rfl) (fun _ _ _ h => h) (Or.inl ⟨by rfl, ?_⟩) hHeld ?_; rotate_left; (focus (intro w hSw; (try dsimp only at hSw); go_simp; try (with_reducible rfl))); (try simp only [Act.put, List.getElem_toArray, List.getElem_cons_succ, List.getElem_cons_zero, List.setIfInBounds_toArray, List.set_cons_zero, List.set_cons_succ]))
  (refine wpAnyE_take (n := 12) (i := 9) (v := ?_) rfl (by kernel_rfl) (by kernel_rfl) (by kernel_rfl) (by kernel_rfl) (by kernel_rfl) (fun _ _ _ h => h) (Or.inl ⟨by rfl, ?_⟩) hHeld ?_; rotate_left; (focus (intro w hSw; (try dsimp only at hSw); go_simp; try (with_reducible rfl))); (try simp only [Act.put, List.getElem_toArray, List.getElem_cons_succ, List.getElem_cons_zero, List.setIfInBounds_toArray, List.set_cons_zero, List.set_cons_succ]))
  (refine wpAnyE_take (n := 12) (i := 10) (v := ?_) rfl (by kernel_rfl) (by kernel_rfl) (by kernel_rfl) (by kernel_rfl) (by kernel_rfl) (fun _ _ _ h => h) (Or.inl ⟨by rfl, ?_⟩) hHeld ?_; rotate_left; (focus (intro w hSw; (try dsimp only at hSw); go_simp; try (with_reducible rfl))); (try simp only [Act.put, List.getElem_toArray, List.getElem_cons_succ, List.getElem_cons_zero, List.setIfInBounds_toArray, List.set_cons_zero, List.set_cons_succ]))
  (refine wpAnyE_take (n := 12) (i := 11) (v := ?_) rfl (by kernel_rfl) (by kernel_rfl) (by kernel_rfl) (by kernel_rfl) (by kernel_rfl) (fun _ _ _ h => h) (Or.inl ⟨by rfl, ?_⟩) hHeld ?_; rotate_left; (focus (intro w hSw; (try dsimp only at hSw); go_simp; try (with_reducible rfl))); (try simp only [Act.put, List.getElem_toArray, List.getElem_cons_succ, List.getElem_cons_zero, List.setIfInBounds_toArray, List.set_cons_zero, List.set_cons_succ]))
  (refine wpAnyE_take (n := 12) (i := 12) (v := ?_) rfl (by kernel_rfl) (by kernel_rfl) (by kernel_rfl) (by kernel_rfl) (by kernel_rfl) (fun _ _ _ h => h) (Or.inl ⟨by rfl, ?_⟩) hHeld ?_; rotate_left; (focus (intro w hSw; (try dsimp only at hSw); go_simp; try (with_reducible rfl))); (try simp only [Act.put, List.getElem_toArray, List.getElem_cons_succ, List.getElem_cons_zero, List.setIfInBounds_toArray, List.set_cons_zero, List.set_cons_succ]))
  (refine wpAnyE_take (n := 12) (i := 14) (v := ?_) rfl (by kernel_rfl) (by kernel_rfl) (by kernel_rfl) (by kernel_rfl) (by kernel_rfl) (fun _ _ _ h => h) (Or.inl ⟨by rfl, ?_⟩) hHeld ?_; rotate_left; (focus (intro w hSw; (try dsimp only at hSw); go_simp; try (with_reducible rfl))); (try simp only [Act.put, List.getElem_toArray, List.getElem_cons_succ, List.getElem_cons_zero, List.setIfInBounds_toArray, List.set_cons_zero, List.set_cons_succ]))
  refine wpAnyE_named ?_
  intro q0 hq0
  have HBq0 : Hid (Below W.heap.size W q0) := Lib.hid (by rw [hq0]; exact b_drew (Below.refl _ _))
  clear hq0
  replace hHeld := HS.out _ HBq0.out
  refine wpAnyE_ready (rs := [1, 15]) (by kernel_rfl) (by simp) (AllReadyE.cons rfl (fun K hK => ?_) (AllReadyE.cons rfl (fun K hK => ?_) (AllReadyE.nil)))
  · skip
    go_simp
    refine hK.out _ _ (HS.out _ (b_alloc HBq0.out _)) (fun hHeld => ?_)
    clear hK K
    (try simp only [Act.put, List.getElem_toArray, List.getElem_cons_succ, List.getElem_cons_zero, List.setIfInBounds_toArray, List.set_cons_zero, List.set_cons_succ])
    refine wpAnyE_named ?_
    intro q1 hq1
    have HBq1 : Hid (Below W.heap.size W q1) := Lib.hid (by rw [hq1]; exact b_alloc HBq0.out _)
    obtain ⟨B, hB⟩ : ∃ x, x = q0.heap.size := ⟨_, rfl⟩
    rw [← hB]
    have OWq1 : Hid (OwnR frmE RFT q1 W.heap.size (.slice (some ⟨B, 0, none⟩) 0 0) []) := Lib.hid (by rw [hq1, hB]; exact own_emptyR HBq0.out.size)
    clear hq1 hB
    replace hHeld := HS.out _ HBq1.out
    refine wpAnyE_ready (rs := [13, 15]) (by kernel_rfl) (by simp) (AllReadyE.cons rfl (fun K hK => ?_) (AllReadyE.cons rfl (fun K hK => ?_) (AllReadyE.nil)))
    · skip
      refine step_appendR rowRF (by rfl) _ _ (by rfl) W.heap.size _ [] (by rfl) OWq1.out _ V (by rfl) (readR_below HTR.out HBq1.out) (by (have := HLL.out); simp only [List.length_nil]; omega) (by (have := HLL.out); simp only [List.length_nil]; unfold maxLen; omega) HBq1.out.size ?_
      intro V1 q2 ownq2 hgq2
      rw [List.nil_append] at ownq2
      have HBq2 := Lib.hid (b_ownR HBq1.out OWq1.out hgq2)
      have OWq2 := Lib.hid ownq2
      clear ownq2 hgq2
      refine hK.out _ _ (HS.out _ HBq2.out) (fun hHeld => ?_)
      clear hK K
      (try simp only [Act.put, List.getElem_toArray, List.getElem_cons_succ, List.getElem_cons_zero, List.setIfInBounds_toArray, List.set_cons_zero, List.set_cons_succ])
      refine wpAnyE_ready (rs := [15]) (by kernel_rfl) (by simp) (AllReadyE.cons rfl (fun K hK => ?_) AllReadyE.nil)
      go_simp
      refine hK.out _ _ (HS.out _ (b_alloc HBq2.out _)) (fun hHeld => ?_)
      clear hK K
      (try simp only [Act.put, List.getElem_toArray, List.getElem_cons_succ, List.getElem_cons_zero, List.setIfInBounds_toArray, List.set_cons_zero, List.set_cons_succ])
      refine wpAnyE_named ?_
      intro q3 hq3
      have HBq3 : Hid (Below W.heap.size W q3) := Lib.hid (by rw [hq3]; exact b_alloc HBq2.out _)
      obtain ⟨Y, hY⟩ : ∃ x, x = q2.heap.size := ⟨_, rfl⟩
      rw [← hY]
      have HYq3 : Hid (Blk q3 Y [.int .i64 vf, .int .i64 va, .slice wa wn wc, .slice ya yn yc]) := Lib.hid (by rw [hq3]; exact blk_new3 hY)
      have OWq3 : Hid (OwnR frmE RFT q3 W.heap.size V1 V) := Lib.hid (by rw [hq3]; exact ownR_alloc OWq2.out _)
      clear hq3 hY
      replace hHeld := HS.out _ HBq3.out
      refine wpAnyE_ready (rs := [16]) (by kernel_rfl) (by simp) (AllReadyE.cons rfl (fun K hK => ?_) AllReadyE.nil)
      refine step_append1 rowRF (by rfl) _ _ (by rfl) (by rfl) (B := W.heap.size) OWq3.out ⟨vf, va, ⟨wa, wn, wc⟩, ⟨ya, yn, yc⟩⟩ Y 1 (by rfl) HYq3.out (by (have := HLL.out); omega) (by (have := HLL.out); unfold maxLen; omega) HBq3.out.size ?_
      intro g cap q4 ownq4 hgq4 horq4 hlq4
      have HBq4 := Lib.hid (b_ownR HBq3.out OWq3.out hgq4)
      have OWq4 := Lib.hid ownq4
      clear ownq4 hgq4 horq4 hlq4
      refine hK.out _ _ (HS.out _ HBq4.out) (fun hHeld => ?_)
      clear hK K
      (try simp only [Act.put, List.getElem_toArray, List.getElem_cons_succ, List.getElem_cons_zero, List.setIfInBounds_toArray, List.set_cons_zero, List.set_cons_succ])
      (refine wpAnyE_take (n := 12) (i := 17) (v := ?_) rfl (by kernel_rfl) (by kernel_rfl) (by kernel_rfl) (by kernel_rfl) (by kernel_rfl) (fun _ _ _ h => h) (Or.inl ⟨by rfl, ?_⟩) hHeld ?_; rotate_left; (focus (intro w hSw; (try dsimp only at hSw); go_simp; try (with_reducible rfl))); (try simp only [Act.put, List.getElem_toArray, List.getElem_cons_succ, List.getElem_cons_zero, List.setIfInBounds_toArray, List.set_cons_zero, List.set_cons_succ]))
      (refine wpAnyE_take (n := 12) (i := 18) (v := ?_) rfl (by kernel_rfl) (by kernel_rfl) (by kernel_rfl) (by kernel_rfl) (by kernel_rfl) (fun _ _ _ h => h) (Or.inl ⟨by rfl, ?_⟩) hHeld ?_; rotate_left; (focus (intro w hSw; (try dsimp only at hSw); go_simp; try (with_reducible rfl))); (try simp only [Act.put, List.getElem_toArray, List.getElem_cons_succ, List.getElem_cons_zero, List.setIfInBounds_toArray, List.set_cons_zero, List.set_cons_succ]))
      have bx := blk_below HBOX.out HBq4.out
      have bz := bx.1
      have bf := bx.2.2
      have b4 := bx.2.1 4 (by simp)
      clear bx
      refine wpAnyE_ready (rs := [19]) (by kernel_rfl) (by simp) (AllReadyE.last rfl (fun K hK => ?_))
      go_simp
      refine hK.out _ _ (trivial) (fun hHeld => ?_)
      clear hK K
      (try simp only [Act.put, List.getElem_toArray, List.getElem_cons_succ, List.getElem_cons_zero, List.setIfInBounds_toArray, List.set_cons_zero, List.set_cons_succ])
      refine wpAnyE_done (by kernel_rfl) ?_
      go_wp2_with fail
      exact bodyPost_end (v := .tuple #[]) (by simp [results, Try.results93, go_sem]) rfl (HFIN.out _ g cap (b_call HBW.out HBq4.out) (ownR_mono OWq4.out HBW.out.size))
    · skip
      go_simp
      refine hK.out _ _ (HS.out _ (b_alloc HBq1.out _)) (fun hHeld => ?_)
      clear hK K
      (try simp only [Act.put, List.getElem_toArray, List.getElem_cons_succ, List.getElem_cons_zero, List.setIfInBounds_toArray, List.set_cons_zero, List.set_cons_succ])
      refine wpAnyE_named ?_
      intro q5 hq5
      have HBq5 : Hid (Below W.heap.size W q5) := Lib.hid (by rw [hq5]; exact b_alloc HBq1.out _)
      obtain ⟨Y, hY⟩ : ∃ x, x = q1.heap.size := ⟨_, rfl⟩
      rw [← hY]
      have HYq5 : Hid (Blk q5 Y [.int .i64 vf, .int .i64 va, .slice wa wn wc, .slice ya yn yc]) := Lib.hid (by rw [hq5]; exact blk_new3 hY)
      have OWq5 : Hid (OwnR frmE RFT q5 W.heap.size (.slice (some ⟨B, 0, none⟩) 0 0) []) := Lib.hid (by rw [hq5]; exact ownR_alloc OWq1.out _)
      have HNE : Hid (Y ≠ B) := Lib.hid (by have := (ownR_lt OWq1.out B rfl).2; omega)
      clear hq5 hY
      replace hHeld := HS.out _ HBq5.out
      refine wpAnyE_ready (rs := [13]) (by kernel_rfl) (by simp) (AllReadyE.cons rfl (fun K hK => ?_) AllReadyE.nil)
      refine step_appendR rowRF (by rfl) _ _ (by rfl) W.heap.size _ [] (by rfl) OWq5.out _ V (by rfl) (readR_below HTR.out HBq5.out) (by (have := HLL.out); simp only [List.length_nil]; omega) (by (have := HLL.out); simp only [List.length_nil]; unfold maxLen; omega) HBq5.out.size ?_
      intro V1 q6 ownq6 hgq6
      rw [List.nil_append] at ownq6
      have HBq6 := Lib.hid (b_ownR HBq5.out OWq5.out hgq6)
      have OWq6 := Lib.hid ownq6
      have HYq6 : Hid (Blk q6 Y [.int .i64 vf, .int .i64 va, .slice wa wn wc, .slice ya yn yc]) := Lib.hid (blk_grown HYq5.out hgq6 (fun e => HNE.out (by injection e)))
      clear ownq6 hgq6
      refine hK.out _ _ (HS.out _ HBq6.out) (fun hHeld => ?_)
      clear hK K
      (try simp only [Act.put, List.getElem_toArray, List.getElem_cons_succ, List.getElem_cons_zero, List.setIfInBounds_toArray, List.set_cons_zero, List.set_cons_succ])
      refine wpAnyE_ready (rs := [16]) (by kernel_rfl) (by simp) (AllReadyE.cons rfl (fun K hK => ?_) AllReadyE.nil)
      refine step_append1 rowRF (by rfl) _ _ (by rfl) (by rfl) (B := W.heap.size) OWq6.out ⟨vf, va, ⟨wa, wn, wc⟩, ⟨ya, yn, yc⟩⟩ Y 1 (by rfl) HYq6.out (by (have := HLL.out); omega) (by (have := HLL.out); unfold maxLen; omega) HBq6.out.size ?_
      intro g cap q7 ownq7 hgq7 horq7 hlq7
      have HBq7 := Lib.hid (b_ownR HBq6.out OWq6.out hgq7)
      have OWq7 := Lib.hid ownq7
      clear ownq7 hgq7 horq7 hlq7
      refine hK.out _ _ (HS.out _ HBq7.out) (fun hHeld => ?_)
      clear hK K
      (try simp only [Act.put, List.getElem_toArray, List.getElem_cons_succ, List.getElem_cons_zero, List.setIfInBounds_toArray, List.set_cons_zero, List.set_cons_succ])
      (refine wpAnyE_take (n := 12) (i := 17) (v := ?_) rfl (by kernel_rfl) (by kernel_rfl) (by kernel_rfl) (by kernel_rfl) (by kernel_rfl) (fun _ _ _ h => h) (Or.inl ⟨by rfl, ?_⟩) hHeld ?_; rotate_left; (focus (intro w hSw; (try dsimp only at hSw); go_simp; try (with_reducible rfl))); (try simp only [Act.put, List.getElem_toArray, List.getElem_cons_succ, List.getElem_cons_zero, List.setIfInBounds_toArray, List.set_cons_zero, List.set_cons_succ]))
      (refine wpAnyE_take (n := 12) (i := 18) (v := ?_) rfl (by kernel_rfl) (by kernel_rfl) (by kernel_rfl) (by kernel_rfl) (by kernel_rfl) (fun _ _ _ h => h) (Or.inl ⟨by rfl, ?_⟩) hHeld ?_; rotate_left; (focus (intro w hSw; (try dsimp only at hSw); go_simp; try (with_reducible rfl))); (try simp only [Act.put, List.getElem_toArray, List.getElem_cons_succ, List.getElem_cons_zero, List.setIfInBounds_toArray, List.set_cons_zero, List.set_cons_succ]))
      have bx := blk_below HBOX.out HBq7.out
      have bz := bx.1
      have bf := bx.2.2
      have b4 := bx.2.1 4 (by simp)
      clear bx
      refine wpAnyE_ready (rs := [19]) (by kernel_rfl) (by simp) (AllReadyE.last rfl (fun K hK => ?_))
      go_simp
      refine hK.out _ _ (trivial) (fun hHeld => ?_)
      clear hK K
      (try simp only [Act.put, List.getElem_toArray, List.getElem_cons_succ, List.getElem_cons_zero, List.setIfInBounds_toArray, List.set_cons_zero, List.set_cons_succ])
      refine wpAnyE_done (by kernel_rfl) ?_
      go_wp2_with fail
      exact bodyPost_end (v := .tuple #[]) (by simp [results, Try.results93, go_sem]) rfl (HFIN.out _ g cap (b_call HBW.out HBq7.out) (ownR_mono OWq7.out HBW.out.size))
  · skip
    go_simp
    refine hK.out _ _ (HS.out _ (b_alloc HBq0.out _)) (fun hHeld => ?_)
    clear hK K
    (try simp only [Act.put, List.getElem_toArray, List.getElem_cons_succ, List.getElem_cons_zero, List.setIfInBounds_toArray, List.set_cons_zero, List.set_cons_succ])
    refine wpAnyE_named ?_
    intro q8 hq8
    have HBq8 : Hid (Below W.heap.size W q8) := Lib.hid (by rw [hq8]; exact b_alloc HBq0.out _)
    obtain ⟨Y, hY⟩ : ∃ x, x = q0.heap.size := ⟨_, rfl⟩
    rw [← hY]
    have HYq8 : Hid (Blk q8 Y [.int .i64 vf, .int .i64 va, .slice wa wn wc, .slice ya yn yc]) := Lib.hid (by rw [hq8]; exact blk_new3 hY)
    clear hq8 hY
    replace hHeld := HS.out _ HBq8.out
    refine wpAnyE_ready (rs := [1]) (by kernel_rfl) (by simp) (AllReadyE.cons rfl (fun K hK => ?_) AllReadyE.nil)
    go_simp
    refine hK.out _ _ (HS.out _ (b_alloc HBq8.out _)) (fun hHeld => ?_)
    clear hK K
    (try simp only [Act.put, List.getElem_toArray, List.getElem_cons_succ, List.getElem_cons_zero, List.setIfInBounds_toArray, List.set_cons_zero, List.set_cons_succ])
    refine wpAnyE_named ?_
    intro q9 hq9
    have HBq9 : Hid (Below W.heap.size W q9) := Lib.hid (by rw [hq9]; exact b_alloc HBq8.out _)
    obtain ⟨B, hB⟩ : ∃ x, x = q8.heap.size := ⟨_, rfl⟩
    rw [← hB]
    have OWq9 : Hid (OwnR frmE RFT q9 W.heap.size (.slice (some ⟨B, 0, none⟩) 0 0) []) := Lib.hid (by rw [hq9, hB]; exact own_emptyR HBq8.out.size)
    have HYq9 : Hid (Blk q9 Y [.int .i64 vf, .int .i64 va, .slice wa wn wc, .slice ya yn yc]) := Lib.hid (by rw [hq9]; exact blk_alloc HYq8.out _)
    have HNE : Hid (Y ≠ B) := Lib.hid (by have := HYq8.out.1; omega)
    clear hq9 hB
    replace hHeld := HS.out _ HBq9.out
    refine wpAnyE_ready (rs := [13]) (by kernel_rfl) (by simp) (AllReadyE.cons rfl (fun K hK => ?_) AllReadyE.nil)
    refine step_appendR rowRF (by rfl) _ _ (by rfl) W.heap.size _ [] (by rfl) OWq9.out _ V (by rfl) (readR_below HTR.out HBq9.out) (by (have := HLL.out); simp only [List.length_nil]; omega) (by (have := HLL.out); simp only [List.length_nil]; unfold maxLen; omega) HBq9.out.size ?_
    intro V1 q10 ownq10 hgq10
    rw [List.nil_append] at ownq10
    have HBq10 := Lib.hid (b_ownR HBq9.out OWq9.out hgq10)
    have OWq10 := Lib.hid ownq10
    have HYq10 : Hid (Blk q10 Y [.int .i64 vf, .int .i64 va, .slice wa wn wc, .slice ya yn yc]) := Lib.hid (blk_grown HYq9.out hgq10 (fun e => HNE.out (by injection e)))
    clear ownq10 hgq10
    refine hK.out _ _ (HS.out _ HBq10.out) (fun hHeld => ?_)
    clear hK K
    (try simp only [Act.put, List.getElem_toArray, List.getElem_cons_succ, List.getElem_cons_zero, List.setIfInBounds_toArray, List.set_cons_zero, List.set_cons_succ])
    refine wpAnyE_ready (rs := [16]) (by kernel_rfl) (by simp) (AllReadyE.cons rfl (fun K hK => ?_) AllReadyE.nil)
    refine step_append1 rowRF (by rfl) _ _ (by rfl) (by rfl) (B := W.heap.size) OWq10.out ⟨vf, va, ⟨wa, wn, wc⟩, ⟨ya, yn, yc⟩⟩ Y 1 (by rfl) HYq10.out (by (have := HLL.out); omega) (by (have := HLL.out); unfold maxLen; omega) HBq10.out.size ?_
    intro g cap q11 ownq11 hgq11 horq11 hlq11
    have HBq11 := Lib.hid (b_ownR HBq10.out OWq10.out hgq11)
    have OWq11 := Lib.hid ownq11
    clear ownq11 hgq11 horq11 hlq11
    refine hK.out _ _ (HS.out _ HBq11.out) (fun hHeld => ?_)
    clear hK K
    (try simp only [Act.put, List.getElem_toArray, List.getElem_cons_succ, List.getElem_cons_zero, List.setIfInBounds_toArray, List.set_cons_zero, List.set_cons_succ])
    (refine wpAnyE_take (n := 12) (i := 17) (v := ?_) rfl (by kernel_rfl) (by kernel_rfl) (by kernel_rfl) (by kernel_rfl) (by kernel_rfl) (fun _ _ _ h => h) (Or.inl ⟨by rfl, ?_⟩) hHeld ?_; rotate_left; (focus (intro w hSw; (try dsimp only at hSw); go_simp; try (with_reducible rfl))); (try simp only [Act.put, List.getElem_toArray, List.getElem_cons_succ, List.getElem_cons_zero, List.setIfInBounds_toArray, List.set_cons_zero, List.set_cons_succ]))
    (refine wpAnyE_take (n := 12) (i := 18) (v := ?_) rfl (by kernel_rfl) (by kernel_rfl) (by kernel_rfl) (by kernel_rfl) (by kernel_rfl) (fun _ _ _ h => h) (Or.inl ⟨by rfl, ?_⟩) hHeld ?_; rotate_left; (focus (intro w hSw; (try dsimp only at hSw); go_simp; try (with_reducible rfl))); (try simp only [Act.put, List.getElem_toArray, List.getElem_cons_succ, List.getElem_cons_zero, List.setIfInBounds_toArray, List.set_cons_zero, List.set_cons_succ]))
    have bx := blk_below HBOX.out HBq11.out
    have bz := bx.1
    have bf := bx.2.2
    have b4 := bx.2.1 4 (by simp)
    clear bx
    refine wpAnyE_ready (rs := [19]) (by kernel_rfl) (by simp) (AllReadyE.last rfl (fun K hK => ?_))
    go_simp
    refine hK.out _ _ (trivial) (fun hHeld => ?_)
    clear hK K
    (try simp only [Act.put, List.getElem_toArray, List.getElem_cons_succ, List.getElem_cons_zero, List.setIfInBounds_toArray, List.set_cons_zero, List.set_cons_succ])
    refine wpAnyE_done (by kernel_rfl) ?_
    go_wp2_with fail
    exact bodyPost_end (v := .tuple #[]) (by simp [results, Try.results93, go_sem]) rfl (HFIN.out _ g cap (b_call HBW.out HBq11.out) (ownR_mono OWq11.out HBW.out.size))
end
section
open Go.RowKit
set_option linter.unusedVariables false
set_option linter.unusedSimpArgs false
attribute [local go_sem] over_cell over_frozen
variable {w0 w w' : World} {r : Nat} {q : PrV} {lv : Sl} {L : List FrM} {m : FrM}
theorem rret_none (h : DocF w0 w r q lv []) : Calls Try.prog 66 #[rp r] w fun e w' => e = .returned (.int .i64 6) ∧ w = w' := by
  obtain ⟨n1, n2, n3⟩ := doc_len h
  obtain ⟨u, ⟨ga, gn, gc⟩, qm, ⟨fa, fn, fc⟩⟩ := q
  obtain ⟨la, ln, lc⟩ := lv
  simp only [List.length_nil] at n1 n2 n3
  subst n1
  have b4 := h.hd.2.1 4 (by simp)
  simp only [List.getElem_cons_succ, List.getElem_cons_zero] at b4
  have bz := h.hd.1
  clear h n2
  unfold rp
  go_enter Try.func66, Try.ntmps66
  go_wp2_with fail
  go_ret
  exact ⟨rfl, rfl⟩
def RetEnd (w0 w : World) (r : Nat) (q : PrV) (L : List FrM) (e : Ending) (w' : World) : Prop := e = .returned (.int .i64 0) ∧ ∃ lv', DocF w0 w' r q lv' L ∧ GrowX w w' (fun j => j = r)
set_option maxHeartbeats 1000000 in
theorem rret_any (h : DocF w0 w r q lv (L ++ [m])) (hL : L.length ≤ 24) : Calls Try.prog 66 #[rp r] w (RetEnd w0 w r q L) := by
  obtain ⟨n1, n2, n3⟩ := doc_len h
  rw [List.length_append, List.length_singleton] at n1 n2
  have HFIN : Hid (∀ w1, Below w.heap.size w w1 → RetEnd w0 w r q L (.returned (.int .i64 0)) (w1.setCell ⟨r, 4, none⟩ (.slice lv.a L.length lv.c))) := Lib.hid (fun w1 hb => by
    obtain ⟨V, x, hR, hl, hk, _⟩ := doc_R2 h
    have hb1 := docR_below hR hb
    have z := docR_put hR hb (lv' := ⟨lv.a, L.length, lv.c⟩) (V' := V) (by
      have y := readR_take (n := V.length) hb1.rd (by rw [List.length_append]; omega)
      rw [List.take_left, hl] at y
      exact y) (by
      rcases hb1.rt with y | y
      · rw [n1] at y; omega
      · exact Or.inr y)
    exact ⟨rfl, _, doc_less h z.2 z.1 hl (fun k a b => rfOk_gx h.ty (hk k a b) z.2), z.2⟩)
  obtain ⟨u, ⟨ga, gn, gc⟩, qm, ⟨fa, fn, fc⟩⟩ := q
  obtain ⟨la, ln, lc⟩ := lv
  simp only at n1 n2 n3 HFIN
  subst n1
  have HBOX := Lib.hid h.hd
  have b4 := h.hd.2.1 4 (by simp)
  simp only [List.getElem_cons_succ, List.getElem_cons_zero] at b4
  have bz := h.hd.1
  have bf := h.hd.2.2
  have nl : (L.length : Int) ≤ 24 := by omega
  have ncl : (L.length : Int) ≤ lc := by omega
  have ncl1 : (L.length : Int) + 1 ≤ lc := by omega
  have wl : IntKind.i64.wrap (L.length : Int) = L.length := by rw [IntKind.wrap_i64]; omega
  have nl0 : (0 : Int) ≤ L.length := by omega
  have nz : ((L.length : Int) + 1 == 0) = false := beq_false_of_ne (by omega)
  clear h n2 hL
  unfold rp
  go_enter Try.func66, Try.ntmps66
  go_upto_region 3 with fail
  have HS : Hid (∀ w', Below w.heap.size w w' → w'.cell? ⟨r, 4, none⟩ = some (.slice la (L.length + 1) lc)) := Lib.hid (fun w' hb => (blk_below HBOX.out hb).2.1 4 (by simp))
  refine wp_region_E (S := fun w' => w'.cell? ⟨r, 4, none⟩ = some (.slice la (L.length + 1) lc)) 14 (by kernel_rfl) (HS.out _ (b_drew (Below.refl _ _))) (fun hHeld => ?_)
  (refine wpAnyE_take (n := 12) (i := 0) (v := ?_) rfl (by kernel_rfl) (by kernel_rfl) (by kernel_rfl) (by kernel_rfl) (by kernel_rfl) (fun _ _ _ h => h) (Or.inl ⟨by rfl, ?_⟩) hHeld ?_; rotate_left; (focus (intro w hSw; (try dsimp only at hSw); go_simp; try (with_reducible rfl))); (try simp only [Act.put, List.getElem_toArray, List.getElem_cons_succ, List.getElem_cons_zero, List.setIfInBounds_toArray, List.set_cons_zero, List.set_cons_succ]))
  (refine wpAnyE_take (n := 12) (i := 1) (v := ?_) rfl (by kernel_rfl) (by kernel_rfl) (by kernel_rfl) (by kernel_rfl) (by kernel_rfl) (fun _ _ _ h => h) (Or.inl ⟨by rfl, ?_⟩) hHeld ?_; rotate_left; (focus (intro w hSw; (try dsimp only at hSw); go_simp; try (with_reducible rfl))); (try simp only [Act.put, List.getElem_toArray, List.getElem_cons_succ, List.getElem_cons_zero, List.setIfInBounds_toArray, List.set_cons_zero, List.set_cons_succ]))
  (refine wpAnyE_take (n := 12) (i := 2) (v := ?_) rfl (by kernel_rfl) (by kernel_rfl) (by kernel_rfl) (by kernel_rfl) (by kernel_rfl) (fun _ _ _ h => h) (Or.inl ⟨by rfl, ?_⟩) hHeld ?_; rotate_left; (focus (intro w hSw; (try dsimp only at hSw); go_simp; try (with_reducible rfl))); (try simp only [Act.put, List.getElem_toArray, List.getElem_cons_succ, List.getElem_cons_zero, List.setIfInBounds_toArray, List.set_cons_zero, List.set_cons_succ]))
  (refine wpAnyE_take (n := 12) (i := 3) (v := ?_) rfl (by kernel_rfl) (by kernel_rfl) (by kernel_rfl) (by kernel_rfl) (by kernel_rfl) (fun _ _ _ h => h) (Or.inl ⟨by rfl, ?_⟩) hHeld ?_; rotate_left; (focus (intro w hSw; (try dsimp only at hSw); go_simp; try (with_reducible rfl))); (try simp only [Act.put, List.getElem_toArray, List.getElem_cons_succ, List.getElem_cons_zero, List.setIfInBounds_toArray, List.set_cons_zero, List.set_cons_succ]))
  (refine wpAnyE_take (n := 12) (i := 4) (v := ?_) rfl (by kernel_rfl) (by kernel_rfl) (by kernel_rfl) (by kernel_rfl) (by kernel_rfl) (fun _ _ _ h => h) (Or.inl ⟨by rfl, ?_⟩) hHeld ?_; rotate_left; (focus (intro w hSw; (try dsimp only at hSw); go_simp; try (with_reducible rfl))); (try simp only [Act.put, List.getElem_toArray, List.getElem_cons_succ, List.getElem_cons_zero, List.setIfInBounds_toArray, List.set_cons_zero, List.set_cons_succ]))
  (refine wpAnyE_take (n := 12) (i := 5) (v := ?_) rfl (by kernel_rfl) (by kernel_rfl) (by kernel_rfl) (by kernel_rfl) (by kernel_rfl) (fun _ _ _ h => h) (Or.inl ⟨by rfl, ?_⟩) hHeld ?_; rotate_left; (focus (intro w hSw; (try dsimp only at hSw); go_simp; try (with_reducible rfl))); (try simp only [Act.put, List.getElem_toArray, List.getElem_cons_succ, List.getElem_cons_zero, List.setIfInBounds_toArray, List.set_cons_zero, List.set_cons_succ]))
  (refine wpAnyE_take (n := 12) (i := 6) (v := ?_) rfl (by kernel_rfl) (by kernel_rfl) (by kernel_rfl) (by kernel_rfl) (by kernel_rfl) (fun _ _ _ h => h) (Or.inl ⟨by rfl, ?_⟩) hHeld ?_; rotate_left; (focus (intro w hSw; (try dsimp only at hSw); go_simp; try (with_reducible rfl))); (try simp only [Act.put, List.getElem_toArray, List.getElem_cons_succ, List.getElem_cons_zero, List.setIfInBounds_toArray, List.set_cons_zero, List.set_cons_succ]))
  (refine wpAnyE_take (n := 12) (i := 7) (v := ?_) rfl (by kernel_rfl) (by kernel_rfl) (by kernel_rfl) (by kernel_rfl) (by kernel_rfl) (fun _ _ _ h => h) (Or.inl ⟨by rfl, ?_⟩) hHeld ?_; rotate_left; (focus (intro w hSw; (try dsimp only at hSw); go_simp; try (with_reducible rfl))); (try simp only [Act.put, List.getElem_toArray, List.getElem_cons_succ, List.getElem_cons_zero, List.setIfInBounds_toArray, List.set_cons_zero, List.set_cons_succ]))
  (refine wpAnyE_take (n := 12) (i := 8) (v := ?_) rfl (by kernel_rfl) (by kernel_rfl) (by kernel_rfl) (by kernel_rfl) (by kernel_rfl) (fun _ _ _ h => h) (Or.inl ⟨by rfl, ?_⟩) hHeld ?_; rotate_left; (focus (intro w hSw; (try dsimp only at hSw); go_simp; try (with_reducible rfl))); (try simp only [Act.put, List.getElem_toArray, List.getElem_cons_succ, List.getElem_cons_zero, List.setIfInBounds_toArray, List.set_cons_zero, List.set_cons_succ]))
  (refine wpAnyE_take (n := 12) (i := 9) (v := ?_) rfl (by kernel_rfl) (by kernel_rfl) (by kernel_rfl) (by kernel_rfl) (by kernel_rfl) (fun _ _ _ h => h) (Or.inl ⟨by rfl, ?_⟩) hHeld ?_; rotate_left; (focus (intro w hSw; (try dsimp only at hSw); go_simp; try (with_reducible rfl))); (try simp only [Act.put, List.getElem_toArray, List.getElem_cons_succ, List.getElem_cons_zero, List.setIfInBounds_toArray, List.set_cons_zero, List.set_cons_succ]))
  (refine wpAnyE_take (n := 12) (i := 10) (v := ?_) rfl (by kernel_rfl) (by kernel_rfl) (by kernel_rfl) (by kernel_rfl) (by kernel_rfl) (fun _ _ _ h => h) (Or.inl ⟨by rfl, ?_⟩) hHeld ?_; rotate_left; (focus (intro w hSw; (try dsimp only at hSw); go_simp; try (with_reducible rfl))); (try simp only [Act.put, List.getElem_toArray, List.getElem_cons_succ, List.getElem_cons_zero, List.setIfInBounds_toArray, List.set_cons_zero, List.set_cons_succ]))
  (refine wpAnyE_take (n := 12) (i := 11) (v := ?_) rfl (by kernel_rfl) (by kernel_rfl) (by kernel_rfl) (by kernel_rfl) (by kernel_rfl) (fun _ _ _ h => h) (Or.inl ⟨by rfl, ?_⟩) hHeld ?_; rotate_left; (focus (intro w hSw; (try dsimp only at hSw); go_simp; try (with_reducible rfl))); (try simp only [Act.put, List.getElem_toArray, List.getElem_cons_succ, List.getElem_cons_zero, List.setIfInBounds_toArray, List.set_cons_zero, List.set_cons_succ]))
  (refine wpAnyE_take (n := 12) (i := 12) (v := ?_) rfl (by kernel_rfl) (by kernel_rfl) (by kernel_rfl) (by kernel_rfl) (by kernel_rfl) (fun _ _ _ h => h) (Or.inl ⟨by rfl, ?_⟩) hHeld ?_; rotate_left; (focus (intro w hSw; (try dsimp only at hSw); go_simp; try (with_reducible rfl))); (try simp only [Act.put, List.getElem_toArray, List.getElem_cons_succ, List.getElem_cons_zero, List.setIfInBounds_toArray, List.set_cons_zero, List.set_cons_succ]))
  (refine wpAnyE_take (n := 12) (i := 13) (v := ?_) rfl (by kernel_rfl) (by kernel_rfl) (by kernel_rfl) (by kernel_rfl) (by kernel_rfl) (fun _ _ _ h => h) (Or.inl ⟨by rfl, ?_⟩) hHeld ?_; rotate_left; (focus (intro w hSw; (try dsimp only at hSw); go_simp; try (with_reducible rfl))); (try simp only [Act.put, List.getElem_toArray, List.getElem_cons_succ, List.getElem_cons_zero, List.setIfInBounds_toArray, List.set_cons_zero, List.set_cons_succ]))
  refine wpAnyE_ready (rs := [14]) (by kernel_rfl) (by simp) (AllReadyE.last rfl (fun K hK => ?_))
  go_simp
  refine hK.out _ _ (trivial) (fun hHeld => ?_)
  clear hK K
  (try simp only [Act.put, List.getElem_toArray, List.getElem_cons_succ, List.getElem_cons_zero, List.setIfInBounds_toArray, List.set_cons_zero, List.set_cons_succ])
  refine wpAnyE_done (by kernel_rfl) ?_
  go_wp2_with fail
  go_ret
  exact HFIN.out _ (b_drew (Below.refl _ _))
theorem doc_top (h : DocF w0 w r q lv (L ++ [m])) : ∃ vb vo, ∃ v : RfV, lv.a = some ⟨vb, vo, none⟩ ∧ vb < w.heap.size ∧ RfOk w v m ∧ w.cell? ⟨vb, vo + L.length * 4, none⟩ = some (.int .i64 m.f) ∧ w.cell? ⟨vb, vo + L.length * 4 + 1, none⟩ = some (.int .i64 m.at_) ∧ w.cell? ⟨vb, vo + L.length * 4 + 2, none⟩ = some (.slice v.l.a m.loc.length v.l.c) ∧ w.cell? ⟨vb, vo + L.length * 4 + 3, none⟩ = some (.slice v.s.a m.stk.length v.s.c) ∧ v.l.n = m.loc.length ∧ v.s.n = m.stk.length := by
  obtain ⟨V, h1, h2, h3, h4⟩ := h.row
  rw [List.length_append, List.length_singleton] at h3
  obtain ⟨vb, vo, cap, e, _, _, hlt, hc⟩ := readR_pos h1 (by omega)
  injection e with e1 _ _
  have hk : L.length < V.length := by omega
  have hok := h4 L.length hk (by rw [List.length_append, List.length_singleton]; omega)
  rw [List.getElem_append_right (Nat.le_refl _)] at hok
  simp only [Nat.sub_self, List.getElem_cons_zero] at hok
  obtain ⟨_, _, el, _, _⟩ := readR_len hok.l
  obtain ⟨_, _, es, _, _⟩ := readR_len hok.s
  injection el with _ el2 _
  injection es with _ es2 _
  have c0 : w.cell? ⟨vb, vo + L.length * 4, none⟩ = some (.int .i64 V[L.length].f) := hc L.length hk 0 (by decide)
  have c1 : w.cell? ⟨vb, vo + L.length * 4 + 1, none⟩ = some (.int .i64 V[L.length].at_) := hc L.length hk 1 (by decide)
  have c2 : w.cell? ⟨vb, vo + L.length * 4 + 2, none⟩ = some (.slice V[L.length].l.a V[L.length].l.n V[L.length].l.c) := hc L.length hk 2 (by decide)
  have c3 : w.cell? ⟨vb, vo + L.length * 4 + 3, none⟩ = some (.slice V[L.length].s.a V[L.length].s.n V[L.length].s.c) := hc L.length hk 3 (by decide)
  exact ⟨vb, vo, V[L.length], e1, hlt, hok, by rw [← hok.f]; exact c0, by rw [← hok.a]; exact c1, by rw [← el2]; exact c2, by rw [← es2]; exact c3, el2, es2⟩
theorem rloc_none (h : DocF w0 w r q lv []) (k : Int) : Calls Try.prog 70 #[rp r, .int .i64 k] w fun e w' => e = .returned (.tuple #[aggV ⟨0, 0⟩, .int .i64 6]) ∧ Below w.heap.size w w' := by
  obtain ⟨n1, n2, n3⟩ := doc_len h
  obtain ⟨u, ⟨ga, gn, gc⟩, qm, ⟨fa, fn, fc⟩⟩ := q
  obtain ⟨la, ln, lc⟩ := lv
  simp only [List.length_nil] at n1 n2 n3
  subst n1
  have b4 := h.hd.2.1 4 (by simp)
  simp only [List.getElem_cons_succ, List.getElem_cons_zero] at b4
  have bz := h.hd.1
  clear h n2
  unfold rp
  go_enter Try.func70, Try.ntmps70
  go_wp2_with fail
  exact bodyPost_ret (v := .tuple #[aggV ⟨0, 0⟩, .int .i64 6]) (by simp [results, Try.results70, go_sem, aggV]) rfl ⟨rfl, by first | exact b_alloc (Below.refl _ _) _ | exact b_grown (b_alloc (Below.refl _ _) _) (gb_set (gb_set (gb_refl _ (some w.heap.size)) _ _ _) _ _ _) (Nat.le_refl _)⟩
set_option maxRecDepth 100000 in
set_option maxHeartbeats 2000000 in
theorem rloc_any (h : DocF w0 w r q lv (L ++ [m])) (hL : L.length ≤ 24) (k : Nat) (hk : k < m.loc.length) : Calls Try.prog 70 #[rp r, .int .i64 k] w fun e w' => e = .returned (.tuple #[aggV m.loc[k], .int .i64 0]) ∧ Below w.heap.size w w' := by
  obtain ⟨n1, n2, n3⟩ := doc_len h
  rw [List.length_append, List.length_singleton] at n1 n2
  obtain ⟨vb, vo, v, ea, hvb, hv, c0, c1, c2, c3, e1, e2⟩ := doc_top h
  obtain ⟨lb, lo, lcap, el, hl1, _, hlb, hlc⟩ := valR_pos hv.l (by omega)
  injection el with el1 _ el3
  rw [el1] at c2
  obtain ⟨hk0, hk1⟩ := hlc k hk
  have HV := Lib.hid hv
  obtain ⟨va, vb', ⟨wa, wn, wc⟩, ⟨ya, yn, yc⟩⟩ := v
  obtain ⟨u, ⟨ga, gn, gc⟩, qm, ⟨fa, fn, fc⟩⟩ := q
  obtain ⟨la, ln, lc⟩ := lv
  simp only at n1 n2 n3 ea c2 c3 el3
  subst n1
  subst ea
  have b4 := h.hd.2.1 4 (by simp)
  simp only [List.getElem_cons_succ, List.getElem_cons_zero] at b4
  have bz := h.hd.1
  have nl : (L.length : Int) ≤ 24 := by omega
  have ncl : (L.length : Int) < lc := by omega
  have wl : IntKind.i64.wrap (L.length : Int) = L.length := by rw [IntKind.wrap_i64]; omega
  have nl0 : (0 : Int) ≤ L.length := by omega
  have nll : (L.length : Int) < L.length + 1 := by omega
  have nz : ((L.length : Int) + 1 == 0) = false := beq_false_of_ne (by omega)
  have k0 : (0 : Int) ≤ k := by omega
  have k1 : (k : Int) < m.loc.length := by omega
  have kc : (k : Int) < wc := by omega
  obtain ⟨vk, vbits⟩ : ∃ vk, vk = m.loc[k] := ⟨_, rfl⟩
  rw [← vbits] at hk0 hk1 ⊢
  obtain ⟨xk, xb⟩ := vk
  have HXX := Lib.hid vbits
  simp only at hk0 hk1
  clear h n2 hL el1 el3 hv hl1 hlc e1 e2 vbits
  unfold rp
  go_enter Try.func70, Try.ntmps70
  go_upto_region 3 with fail
  go_region
  refine thenF_named ?_
  intro W hW
  have S1 : Blk W w.heap.size [.int .i64 0, .int .u64 0] ∧ Blk W (w.heap.size + 1) [.int .i64 m.f, .int .i64 m.at_, .slice (some ⟨lb, lo, none⟩) m.loc.length wc, .slice ya m.stk.length yc] ∧ Below w.heap.size w W := by
    rw [hW]
    obtain ⟨z1, z2, z3⟩ := boxF2 w #[.int .i64 0, .int .u64 0] #[.int .i64 m.f, .int .i64 m.at_, .slice (some ⟨lb, lo, none⟩) m.loc.length wc, .slice ya m.stk.length yc] VRT RFT
    exact ⟨z1, z2, b_drew z3⟩
  have HB := Lib.hid S1.2.2
  obtain ⟨y0, y1, yf⟩ := blk2 S1.1
  obtain ⟨x0, x1, x2, x3, _⟩ := blk4 S1.2.1
  have yz := S1.1.1
  have xz := S1.2.1.1
  have g0 := ((bcell HB.out).1 _ _ hlb).trans hk0
  have g1 := ((bcell HB.out).1 _ _ hlb).trans hk1
  have gz := Nat.lt_of_lt_of_le hlb HB.out.size
  clear hW S1 b4 bz hk0 hk1 hlb c0 c1 c2 c3 hvb
  go_wp2_with fail
  refine post_named ?_
  intro w9 hw9
  have g9 : W.grownBy w9 (some w.heap.size) ∧ w9.cell? ⟨w.heap.size, 0, none⟩ = some (.int .i64 xk) ∧ w9.cell? ⟨w.heap.size, 1, none⟩ = some (.int .u64 xb) := by
    subst hw9
    refine ⟨gb_set (gb_set (gb_refl _ (some w.heap.size)) _ _ _) _ _ _, by simp [go_sem, y0, y1], by simp [go_sem, y0, y1]⟩
  obtain ⟨g9, u0, u1⟩ := g9
  exact bodyPost_ret (v := .tuple #[aggV ⟨xk, xb⟩, .int .i64 0]) (by simp [results, Try.results70, go_sem, aggV, u0, u1]) rfl ⟨rfl, b_grown HB.out g9 (Nat.le_refl _)⟩
set_option maxRecDepth 100000 in
set_option maxHeartbeats 2000000 in
theorem rloc_out (h : DocF w0 w r q lv (L ++ [m])) (hL : L.length ≤ 24) (k : Int) (hk : ¬ (0 ≤ k ∧ k < m.loc.length)) : Calls Try.prog 70 #[rp r, .int .i64 k] w fun e w' => e = .returned (.tuple #[aggV ⟨0, 0⟩, .int .i64 3]) ∧ Below w.heap.size w w' := by
  obtain ⟨n1, n2, n3⟩ := doc_len h
  rw [List.length_append, List.length_singleton] at n1 n2
  obtain ⟨vb, vo, v, ea, hvb, hv, c0, c1, c2, c3, e1, e2⟩ := doc_top h
  obtain ⟨va, vb', ⟨wa, wn, wc⟩, ⟨ya, yn, yc⟩⟩ := v
  obtain ⟨u, ⟨ga, gn, gc⟩, qm, ⟨fa, fn, fc⟩⟩ := q
  obtain ⟨la, ln, lc⟩ := lv
  simp only at n1 n2 n3 ea c2 c3
  subst n1
  subst ea
  have b4 := h.hd.2.1 4 (by simp)
  simp only [List.getElem_cons_succ, List.getElem_cons_zero] at b4
  have bz := h.hd.1
  have nl : (L.length : Int) ≤ 24 := by omega
  have ncl : (L.length : Int) < lc := by omega
  have wl : IntKind.i64.wrap (L.length : Int) = L.length := by rw [IntKind.wrap_i64]; omega
  have nl0 : (0 : Int) ≤ L.length := by omega
  have nll : (L.length : Int) < L.length + 1 := by omega
  have nz : ((L.length : Int) + 1 == 0) = false := beq_false_of_ne (by omega)
  clear h n2 hL hv e1 e2
  rcases (show k < 0 ∨ (0 ≤ k ∧ (m.loc.length : Int) ≤ k) by omega) with hk1 | ⟨hk1, hk2⟩
  · clear hk
    unfold rp
    go_enter Try.func70, Try.ntmps70
    go_upto_region 3 with fail
    go_region
    refine thenF_named ?_
    intro W hW
    have S1 : Blk W w.heap.size [.int .i64 0, .int .u64 0] ∧ Blk W (w.heap.size + 1) [.int .i64 m.f, .int .i64 m.at_, .slice wa m.loc.length wc, .slice ya m.stk.length yc] ∧ Below w.heap.size w W := by
      rw [hW]
      obtain ⟨z1, z2, z3⟩ := boxF2 w #[.int .i64 0, .int .u64 0] #[.int .i64 m.f, .int .i64 m.at_, .slice wa m.loc.length wc, .slice ya m.stk.length yc] VRT RFT
      exact ⟨z1, z2, b_drew z3⟩
    have HB := Lib.hid S1.2.2
    obtain ⟨y0, y1, yf⟩ := blk2 S1.1
    obtain ⟨x0, x1, x2, x3, _⟩ := blk4 S1.2.1
    have yz := S1.1.1
    have xz := S1.2.1.1
    clear hW S1 b4 bz c0 c1 c2 c3 hvb
    go_wp2_with fail
    exact bodyPost_ret (v := .tuple #[aggV ⟨0, 0⟩, .int .i64 3]) (by simp [results, Try.results70, go_sem, aggV, y0, y1]) rfl ⟨rfl, b_grown HB.out (gb_set (gb_set (gb_refl _ (some w.heap.size)) _ _ _) _ _ _) (Nat.le_refl _)⟩
  · have hk3 : ¬ (k < 0) := by omega
    clear hk
    unfold rp
    go_enter Try.func70, Try.ntmps70
    go_upto_region 3 with fail
    go_region
    refine thenF_named ?_
    intro W hW
    have S1 : Blk W w.heap.size [.int .i64 0, .int .u64 0] ∧ Blk W (w.heap.size + 1) [.int .i64 m.f, .int .i64 m.at_, .slice wa m.loc.length wc, .slice ya m.stk.length yc] ∧ Below w.heap.size w W := by
      rw [hW]
      obtain ⟨z1, z2, z3⟩ := boxF2 w #[.int .i64 0, .int .u64 0] #[.int .i64 m.f, .int .i64 m.at_, .slice wa m.loc.length wc, .slice ya m.stk.length yc] VRT RFT
      exact ⟨z1, z2, b_drew z3⟩
    have HB := Lib.hid S1.2.2
    obtain ⟨y0, y1, yf⟩ := blk2 S1.1
    obtain ⟨x0, x1, x2, x3, _⟩ := blk4 S1.2.1
    have yz := S1.1.1
    have xz := S1.2.1.1
    clear hW S1 b4 bz c0 c1 c2 c3 hvb
    go_wp2_with fail
    exact bodyPost_ret (v := .tuple #[aggV ⟨0, 0⟩, .int .i64 3]) (by simp [results, Try.results70, go_sem, aggV, y0, y1]) rfl ⟨rfl, b_grown HB.out (gb_set (gb_set (gb_refl _ (some w.heap.size)) _ _ _) _ _ _) (Nat.le_refl _)⟩
end
section
open Go.RowKit
set_option linter.unusedVariables false
set_option linter.unusedSimpArgs false
attribute [local go_sem] over_cell over_frozen
variable {w0 w w' : World} {r : Nat} {q : PrV} {lv : Sl} {L : List FrM} {m : FrM}
theorem rpush_none (h : DocF w0 w r q lv []) (v : ValM) : Calls Try.prog 67 #[rp r, aggV v] w fun e w' => e = .returned (.int .i64 6) ∧ Below w.heap.size w w' := by
  obtain ⟨n1, n2, n3⟩ := doc_len h
  obtain ⟨u, ⟨ga, gn, gc⟩, qm, ⟨fa, fn, fc⟩⟩ := q
  obtain ⟨la, ln, lc⟩ := lv
  simp only [List.length_nil] at n1 n2 n3
  subst n1
  have b4 := h.hd.2.1 4 (by simp)
  simp only [List.getElem_cons_succ, List.getElem_cons_zero] at b4
  have bz := h.hd.1
  clear h n2
  unfold rp aggV
  go_enter Try.func67, Try.ntmps67
  go_wp2_with fail
  go_ret
  exact ⟨rfl, b_alloc (Below.refl _ _) _⟩
theorem rpush_full (h : DocF w0 w r q lv (L ++ [m])) (hL : L.length ≤ 24) (v : ValM) (hm : 16 ≤ m.stk.length) (hm2 : m.stk.length ≤ 100) : Calls Try.prog 67 #[rp r, aggV v] w fun e w' => e = .returned (.int .i64 5) ∧ Below w.heap.size w w' := by
  obtain ⟨n1, n2, n3⟩ := doc_len h
  rw [List.length_append, List.length_singleton] at n1 n2
  obtain ⟨vb, vo, v9, ea, hvb, hv, c0, c1, c2, c3, e1, e2⟩ := doc_top h
  have HV := Lib.hid hv
  have HDD := Lib.hid h
  obtain ⟨va, vb', ⟨wa, wn, wcap⟩, ⟨ya, yn, yc⟩⟩ := v9
  obtain ⟨la, ln, lc⟩ := lv
  simp only at n1 n2 n3 ea c2 c3 e1 e2
  subst n1
  subst ea
  subst e1 e2
  have b4 := h.hd.2.1 4 (by simp)
  simp only [List.getElem_cons_succ, List.getElem_cons_zero] at b4
  have bz := h.hd.1
  have nl : (L.length : Int) ≤ 24 := by omega
  have ncl : (L.length : Int) < lc := by omega
  have wl : IntKind.i64.wrap (L.length : Int) = L.length := by rw [IntKind.wrap_i64]; omega
  have nl0 : (0 : Int) ≤ L.length := by omega
  have nll : (L.length : Int) < L.length + 1 := by omega
  have nz : ((L.length : Int) + 1 == 0) = false := beq_false_of_ne (by omega)
  have hs1 : (16 : Int) ≤ m.stk.length := by omega
  clear h n2 hL hv
  unfold rp aggV
  go_enter Try.func67, Try.ntmps67
  go_upto_region 3 with fail
  go_region
  refine thenF_named ?_
  intro W hW
  have S1 : Blk W w.heap.size [.int .i64 v.k, .int .u64 v.b] ∧ Blk W (w.heap.size + 1) [.int .i64 m.f, .int .i64 m.at_, .slice wa m.loc.length wcap, .slice ya m.stk.length yc] ∧ Below w.heap.size w W := by
    rw [hW]
    obtain ⟨z1, z2, z3⟩ := boxF2 w #[.int .i64 v.k, .int .u64 v.b] #[.int .i64 m.f, .int .i64 m.at_, .slice wa m.loc.length wcap, .slice ya m.stk.length yc] VRT RFT
    exact ⟨z1, z2, b_drew z3⟩
  have HB := Lib.hid S1.2.2
  obtain ⟨x0, x1, x2, x3, _⟩ := blk4 S1.2.1
  have xz := S1.2.1.1
  clear hW S1 b4 bz c0 c1 c2 c3 hvb
  go_wp2_with fail
  go_ret
  exact ⟨rfl, HB.out⟩
theorem rfOk_push {w1 : World} {X : Nat} {v : ValM} {va vb : Int} {l : Sl} {ya : Option Addr} {yn yc g cap : Nat} {u : Value} (hv : RfOk w ⟨va, vb, l, ⟨ya, yn, yc⟩⟩ m) (hb : Below w.heap.size w w1) (hX : tyB w1 X = some RFT) (hown : OwnR valE VRT w1 w.heap.size (.slice (some ⟨g, 0, none⟩) (m.stk.length + 1) cap) (m.stk ++ [v])) : RfOk (w1.setCell ⟨X, 3, none⟩ u) ⟨va, vb, l, ⟨some ⟨g, 0, none⟩, m.stk.length + 1, cap⟩⟩ ⟨m.f, m.at_, m.loc, m.stk ++ [v]⟩ := by
  have h1 := rfOk_below hv hb
  have h2 : RfOk w1 ⟨va, vb, l, ⟨some ⟨g, 0, none⟩, m.stk.length + 1, cap⟩⟩ ⟨m.f, m.at_, m.loc, m.stk ++ [v]⟩ := ⟨h1.f, h1.a, h1.l, h1.lt, ownR_read hown, Or.inr ⟨g, rfl, ownR_ty hown g rfl⟩⟩
  refine rfOk_keep h2 (by simp) (fun k hk => Below.heap_setCell _ _ _ _ ?_)
  show k ≠ X
  intro e
  subst e
  rw [hX] at hk
  injection hk with hk
  exact absurd hk (by decide)
def DPushEnd (w0 w : World) (r : Nat) (q : PrV) (L : List FrM) (m : FrM) (e : Ending) (w' : World) : Prop := e = .returned (.int .i64 0) ∧ ∃ lv', DocF w0 w' r q lv' (L ++ [m]) ∧ GrowX w w' (fun j => j = r)
set_option maxRecDepth 100000 in
set_option maxHeartbeats 4000000 in
theorem rpush_any (h : DocF w0 w r q lv (L ++ [m])) (hL : L.length ≤ 24) (v : ValM) (hm : m.stk.length < 16) : Calls Try.prog 67 #[rp r, aggV v] w (DPushEnd w0 w r q L ⟨m.f, m.at_, m.loc, m.stk ++ [v]⟩) := by
  obtain ⟨n1, n2, n3⟩ := doc_len h
  rw [List.length_append, List.length_singleton] at n1 n2
  obtain ⟨vb, vo, v9, ea, hvb, hv, c0, c1, c2, c3, e1, e2⟩ := doc_top h
  have HV := Lib.hid hv
  have HDD := Lib.hid h
  obtain ⟨va, vb', ⟨wa, wn, wcap⟩, ⟨ya, yn, yc⟩⟩ := v9
  obtain ⟨la, ln, lc⟩ := lv
  simp only at n1 n2 n3 ea c2 c3 e1 e2
  subst n1
  subst ea
  subst e1 e2
  have b4 := h.hd.2.1 4 (by simp)
  simp only [List.getElem_cons_succ, List.getElem_cons_zero] at b4
  have bz := h.hd.1
  have nl : (L.length : Int) ≤ 24 := by omega
  have ncl : (L.length : Int) < lc := by omega
  have wl : IntKind.i64.wrap (L.length : Int) = L.length := by rw [IntKind.wrap_i64]; omega
  have nl0 : (0 : Int) ≤ L.length := by omega
  have nll : (L.length : Int) < L.length + 1 := by omega
  have nz : ((L.length : Int) + 1 == 0) = false := beq_false_of_ne (by omega)
  have hs1 : (m.stk.length : Int) < 16 := by omega
  have HSL : Hid (m.stk.length ≤ 16) := Lib.hid (by omega)
  have HSK : Hid (m.stk.length ≤ 16) := HSL
  have HLL := Lib.hid hL
  obtain ⟨SS, hSS⟩ : ∃ SS, SS = m.stk := ⟨_, rfl⟩
  have HSSE := Lib.hid hSS
  have HSSR : Hid (ReadR valE w (.slice ya m.stk.length yc) SS) := Lib.hid (by rw [hSS]; exact hv.s)
  have HSL : Hid (SS.length = m.stk.length) := Lib.hid (by rw [hSS])
  clear h n2 hL hv hm hSS
  unfold rp aggV
  go_enter Try.func67, Try.ntmps67
  go_upto_region 3 with fail
  go_region
  refine thenF_named ?_
  intro W hW
  have S1 : Blk W w.heap.size [.int .i64 v.k, .int .u64 v.b] ∧ Blk W (w.heap.size + 1) [.int .i64 m.f, .int .i64 m.at_, .slice wa m.loc.length wcap, .slice ya m.stk.length yc] ∧ Below w.heap.size w W := by
    rw [hW]
    obtain ⟨z1, z2, z3⟩ := boxF2 w #[.int .i64 v.k, .int .u64 v.b] #[.int .i64 m.f, .int .i64 m.at_, .slice wa m.loc.length wcap, .slice ya m.stk.length yc] VRT RFT
    exact ⟨z1, z2, b_drew z3⟩
  have HTX : Hid (tyB W (w.heap.size + 1) = some RFT) := Lib.hid (by rw [hW, tyB_drew]; exact tyB_new2 (by simp))
  have HB := Lib.hid S1.2.2
  have HY0 := Lib.hid S1.1; have HX := Lib.hid S1.2.1
  obtain ⟨x0, x1, x2, x3, _⟩ := blk4 S1.2.1
  have xz := S1.2.1.1
  clear hW S1 b4 bz c0 c1 c2 c3 hvb
  go_upto_region 6 with fail
  clear x0 x1 x2 x3 xz
  have HSS : Hid (ReadR valE W (.slice ya m.stk.length yc) SS) := Lib.hid (readR_below HSSR.out HB.out)
  have HS : Hid (∀ w', Below W.heap.size W w' → (w'.cell? ⟨w.heap.size, 0, none⟩ = some (.int .i64 v.k) ∧ w'.cell? ⟨w.heap.size, 1, none⟩ = some (.int .u64 v.b)) ∧ w'.cell? ⟨w.heap.size + 1, 3, none⟩ = some (.slice ya m.stk.length yc)) := Lib.hid (fun w' hb => by
    obtain ⟨y0, y1, _⟩ := blk2 (blk_below HY0.out hb)
    obtain ⟨_, _, _, x3, _⟩ := blk4 (blk_below HX.out hb)
    exact ⟨⟨y0, y1⟩, x3⟩)
  have HFIN : Hid (∀ (q9 : World) g cap, Below W.heap.size W q9 → OwnR valE VRT q9 W.heap.size (.slice (some ⟨g, 0, none⟩) (SS.length + 1) cap) (SS ++ [v]) → Hid (Blk (q9.setCell ⟨w.heap.size + 1, 3, none⟩ (.slice (some ⟨g, 0, none⟩) (SS.length + 1) cap)) (w.heap.size + 1) [.int .i64 m.f, .int .i64 m.at_, .slice wa m.loc.length wcap, .slice (some ⟨g, 0, none⟩) (SS.length + 1) cap]) ∧ Hid (RfOk (q9.setCell ⟨w.heap.size + 1, 3, none⟩ (.slice (some ⟨g, 0, none⟩) (SS.length + 1) cap)) ⟨va, vb', ⟨wa, m.loc.length, wcap⟩, ⟨some ⟨g, 0, none⟩, m.stk.length + 1, cap⟩⟩ ⟨m.f, m.at_, m.loc, m.stk ++ [v]⟩) ∧ Hid (Below w.heap.size w (q9.setCell ⟨w.heap.size + 1, 3, none⟩ (.slice (some ⟨g, 0, none⟩) (SS.length + 1) cap)))) := Lib.hid (fun q9 g cap hb ho => by
    refine ⟨Lib.hid (blk_set (blk_below HX.out hb) 3 _), Lib.hid ?_, Lib.hid (b_set (b_call HB.out hb) (p := ⟨w.heap.size + 1, 3, none⟩) (by show w.heap.size ≤ w.heap.size + 1; omega) _)⟩
    rw [HSSE.out] at ho ⊢
    exact rfOk_push HV.out (b_call HB.out hb) (tyB_call HTX.out hb) (ownR_mono ho HB.out.size))
  go_cut [34] (fun x wx => ∃ g cap : Nat, x = .slice (some ⟨g, 0, none⟩) (SS.length + 1) cap ∧ Hid (Blk wx (w.heap.size + 1) [.int .i64 m.f, .int .i64 m.at_, .slice wa m.loc.length wcap, .slice (some ⟨g, 0, none⟩) (SS.length + 1) cap]) ∧ Hid (RfOk wx ⟨va, vb', ⟨wa, m.loc.length, wcap⟩, ⟨some ⟨g, 0, none⟩, m.stk.length + 1, cap⟩⟩ ⟨m.f, m.at_, m.loc, m.stk ++ [v]⟩) ∧ Hid (Below w.heap.size w wx))
  case first =>
    refine wp_region_E (S := fun w' => (w'.cell? ⟨w.heap.size, 0, none⟩ = some (.int .i64 v.k) ∧ w'.cell? ⟨w.heap.size, 1, none⟩ = some (.int .u64 v.b)) ∧ w'.cell? ⟨w.heap.size + 1, 3, none⟩ = some (.slice ya m.stk.length yc)) 8 (by kernel_rfl) (HS.out _ (b_drew (Below.refl _ _))) (fun hHeld => ?_)
    (refine wpAnyE_take (n := 12) (i := 1) (v := ?_) rfl (by kernel_rfl) (by kernel_rfl) (by kernel_rfl) (by kernel_rfl) (by kernel_rfl) (fun _ _ _ h => h) (Or.inl ⟨by rfl, ?_⟩) hHeld ?_; rotate_left; (focus (intro w hSw; (try dsimp only at hSw); go_simp; try (with_reducible rfl))); (try simp only [Act.put, List.getElem_toArray, List.getElem_cons_succ, List.getElem_cons_zero, List.setIfInBounds_toArray, List.set_cons_zero, List.set_cons_succ]))
    (refine wpAnyE_take (n := 12) (i := 2) (v := ?_) rfl (by kernel_rfl) (by kernel_rfl) (by kernel_rfl) (by kernel_rfl) (by kernel_rfl) (fun _ _ _ h => h) (Or.inl ⟨by rfl, ?_⟩) hHeld ?_; rotate_left; (focus (intro w hSw; (try dsimp only at hSw); go_simp; try (with_reducible rfl))); (try simp only [Act.put, List.getElem_toArray, List.getElem_cons_succ, List.getElem_cons_zero, List.setIfInBounds_toArray, List.set_cons_zero, List.set_cons_succ]))
    (refine wpAnyE_take (n := 12) (i := 4) (v := ?_) rfl (by kernel_rfl) (by kernel_rfl) (by kernel_rfl) (by kernel_rfl) (by kernel_rfl) (fun _ _ _ h => h) (Or.inl ⟨by rfl, ?_⟩) hHeld ?_; rotate_left; (focus (intro w hSw; (try dsimp only at hSw); go_simp; try (with_reducible rfl))); (try simp only [Act.put, List.getElem_toArray, List.getElem_cons_succ, List.getElem_cons_zero, List.setIfInBounds_toArray, List.set_cons_zero, List.set_cons_succ]))
    refine wpAnyE_named ?_
    intro q0 hq0
    have HBq0 : Hid (Below W.heap.size W q0) := Lib.hid (by rw [hq0]; exact b_drew (Below.refl _ _))
    clear hq0
    replace hHeld := HS.out _ HBq0.out
    refine wpAnyE_ready (rs := [0, 5]) (by kernel_rfl) (by simp) (AllReadyE.cons rfl (fun K hK => ?_) (AllReadyE.cons rfl (fun K hK => ?_) (AllReadyE.nil)))
    · skip
      go_simp
      refine hK.out _ _ (HS.out _ (b_alloc HBq0.out _)) (fun hHeld => ?_)
      clear hK K
      (try simp only [Act.put, List.getElem_toArray, List.getElem_cons_succ, List.getElem_cons_zero, List.setIfInBounds_toArray, List.set_cons_zero, List.set_cons_succ])
      refine wpAnyE_named ?_
      intro q1 hq1
      have HBq1 : Hid (Below W.heap.size W q1) := Lib.hid (by rw [hq1]; exact b_alloc HBq0.out _)
      obtain ⟨B, hB⟩ : ∃ x, x = q0.heap.size := ⟨_, rfl⟩
      rw [← hB]
      have OWq1 : Hid (OwnR valE VRT q1 W.heap.size (.slice (some ⟨B, 0, none⟩) 0 0) []) := Lib.hid (by rw [hq1, hB]; exact own_emptyR HBq0.out.size)
      clear hq1 hB
      replace hHeld := HS.out _ HBq1.out
      refine wpAnyE_ready (rs := [3, 5]) (by kernel_rfl) (by simp) (AllReadyE.cons rfl (fun K hK => ?_) (AllReadyE.cons rfl (fun K hK => ?_) (AllReadyE.nil)))
      · skip
        refine step_appendR rowVR (by rfl) _ _ (by rfl) W.heap.size _ [] (by rfl) OWq1.out _ SS (by rfl) (readR_below HSS.out HBq1.out) (by (have := HSL.out; have := HSK.out); simp only [List.length_nil]; omega) (by (have := HSL.out; have := HSK.out); simp only [List.length_nil]; unfold maxLen; omega) HBq1.out.size ?_
        intro V1 q2 ownq2 hgq2
        rw [List.nil_append] at ownq2
        have HBq2 := Lib.hid (b_ownR HBq1.out OWq1.out hgq2)
        have OWq2 := Lib.hid ownq2
        clear ownq2 hgq2
        refine hK.out _ _ (HS.out _ HBq2.out) (fun hHeld => ?_)
        clear hK K
        (try simp only [Act.put, List.getElem_toArray, List.getElem_cons_succ, List.getElem_cons_zero, List.setIfInBounds_toArray, List.set_cons_zero, List.set_cons_succ])
        refine wpAnyE_ready (rs := [5]) (by kernel_rfl) (by simp) (AllReadyE.cons rfl (fun K hK => ?_) AllReadyE.nil)
        go_simp
        refine hK.out _ _ (HS.out _ (b_alloc HBq2.out _)) (fun hHeld => ?_)
        clear hK K
        (try simp only [Act.put, List.getElem_toArray, List.getElem_cons_succ, List.getElem_cons_zero, List.setIfInBounds_toArray, List.set_cons_zero, List.set_cons_succ])
        refine wpAnyE_named ?_
        intro q3 hq3
        have HBq3 : Hid (Below W.heap.size W q3) := Lib.hid (by rw [hq3]; exact b_alloc HBq2.out _)
        obtain ⟨Y, hY⟩ : ∃ x, x = q2.heap.size := ⟨_, rfl⟩
        rw [← hY]
        have HYq3 : Hid (Blk q3 Y [.int .i64 v.k, .int .u64 v.b]) := Lib.hid (by rw [hq3]; exact blk_new3 hY)
        have OWq3 : Hid (OwnR valE VRT q3 W.heap.size V1 SS) := Lib.hid (by rw [hq3]; exact ownR_alloc OWq2.out _)
        clear hq3 hY
        replace hHeld := HS.out _ HBq3.out
        refine wpAnyE_ready (rs := [6]) (by kernel_rfl) (by simp) (AllReadyE.cons rfl (fun K hK => ?_) AllReadyE.nil)
        refine step_append1 rowVR (by rfl) _ _ (by rfl) (by rfl) (B := W.heap.size) OWq3.out v Y 1 (by rfl) HYq3.out (by (have := HSL.out; have := HSK.out); omega) (by (have := HSL.out; have := HSK.out); unfold maxLen; omega) HBq3.out.size ?_
        intro g cap q4 ownq4 hgq4 horq4 hlq4
        have HBq4 := Lib.hid (b_ownR HBq3.out OWq3.out hgq4)
        have OWq4 := Lib.hid ownq4
        clear ownq4 hgq4 horq4 hlq4
        refine hK.out _ _ (HS.out _ HBq4.out) (fun hHeld => ?_)
        clear hK K
        (try simp only [Act.put, List.getElem_toArray, List.getElem_cons_succ, List.getElem_cons_zero, List.setIfInBounds_toArray, List.set_cons_zero, List.set_cons_succ])
        (refine wpAnyE_take (n := 12) (i := 7) (v := ?_) rfl (by kernel_rfl) (by kernel_rfl) (by kernel_rfl) (by kernel_rfl) (by kernel_rfl) (fun _ _ _ h => h) (Or.inl ⟨by rfl, ?_⟩) hHeld ?_; rotate_left; (focus (intro w hSw; (try dsimp only at hSw); go_simp; try (with_reducible rfl))); (try simp only [Act.put, List.getElem_toArray, List.getElem_cons_succ, List.getElem_cons_zero, List.setIfInBounds_toArray, List.set_cons_zero, List.set_cons_succ]))
        have bx := blk_below HX.out HBq4.out
        have bz := bx.1
        have bf := bx.2.2
        obtain ⟨x0, x1, x2, x3, _⟩ := blk4 bx
        clear bx
        refine wpAnyE_ready (rs := [8]) (by kernel_rfl) (by simp) (AllReadyE.last rfl (fun K hK => ?_))
        go_simp
        refine hK.out _ _ (trivial) (fun hHeld => ?_)
        clear hK K
        (try simp only [Act.put, List.getElem_toArray, List.getElem_cons_succ, List.getElem_cons_zero, List.setIfInBounds_toArray, List.set_cons_zero, List.set_cons_succ])
        refine wpAnyE_done (by kernel_rfl) ?_
        go_wp2_with fail
        go_meet
        case rel => exact ⟨g, cap, rfl, HFIN.out _ g cap HBq4.out OWq4.out⟩
      · skip
        go_simp
        refine hK.out _ _ (HS.out _ (b_alloc HBq1.out _)) (fun hHeld => ?_)
        clear hK K
        (try simp only [Act.put, List.getElem_toArray, List.getElem_cons_succ, List.getElem_cons_zero, List.setIfInBounds_toArray, List.set_cons_zero, List.set_cons_succ])
        refine wpAnyE_named ?_
        intro q5 hq5
        have HBq5 : Hid (Below W.heap.size W q5) := Lib.hid (by rw [hq5]; exact b_alloc HBq1.out _)
        obtain ⟨Y, hY⟩ : ∃ x, x = q1.heap.size := ⟨_, rfl⟩
        rw [← hY]
        have HYq5 : Hid (Blk q5 Y [.int .i64 v.k, .int .u64 v.b]) := Lib.hid (by rw [hq5]; exact blk_new3 hY)
        have OWq5 : Hid (OwnR valE VRT q5 W.heap.size (.slice (some ⟨B, 0, none⟩) 0 0) []) := Lib.hid (by rw [hq5]; exact ownR_alloc OWq1.out _)
        have HNE : Hid (Y ≠ B) := Lib.hid (by have := (ownR_lt OWq1.out B rfl).2; omega)
        clear hq5 hY
        replace hHeld := HS.out _ HBq5.out
        refine wpAnyE_ready (rs := [3]) (by kernel_rfl) (by simp) (AllReadyE.cons rfl (fun K hK => ?_) AllReadyE.nil)
        refine step_appendR rowVR (by rfl) _ _ (by rfl) W.heap.size _ [] (by rfl) OWq5.out _ SS (by rfl) (readR_below HSS.out HBq5.out) (by (have := HSL.out; have := HSK.out); simp only [List.length_nil]; omega) (by (have := HSL.out; have := HSK.out); simp only [List.length_nil]; unfold maxLen; omega) HBq5.out.size ?_
        intro V1 q6 ownq6 hgq6
        rw [List.nil_append] at ownq6
        have HBq6 := Lib.hid (b_ownR HBq5.out OWq5.out hgq6)
        have OWq6 := Lib.hid ownq6
        have HYq6 : Hid (Blk q6 Y [.int .i64 v.k, .int .u64 v.b]) := Lib.hid (blk_grown HYq5.out hgq6 (fun e => HNE.out (by injection e)))
        clear ownq6 hgq6
        refine hK.out _ _ (HS.out _ HBq6.out) (fun hHeld => ?_)
        clear hK K
        (try simp only [Act.put, List.getElem_toArray, List.getElem_cons_succ, List.getElem_cons_zero, List.setIfInBounds_toArray, List.set_cons_zero, List.set_cons_succ])
        refine wpAnyE_ready (rs := [6]) (by kernel_rfl) (by simp) (AllReadyE.cons rfl (fun K hK => ?_) AllReadyE.nil)
        refine step_append1 rowVR (by rfl) _ _ (by rfl) (by rfl) (B := W.heap.size) OWq6.out v Y 1 (by rfl) HYq6.out (by (have := HSL.out; have := HSK.out); omega) (by (have := HSL.out; have := HSK.out); unfold maxLen; omega) HBq6.out.size ?_
        intro g cap q7 ownq7 hgq7 horq7 hlq7
        have HBq7 := Lib.hid (b_ownR HBq6.out OWq6.out hgq7)
        have OWq7 := Lib.hid ownq7
        clear ownq7 hgq7 horq7 hlq7
        refine hK.out _ _ (HS.out _ HBq7.out) (fun hHeld => ?_)
        clear hK K
        (try simp only [Act.put, List.getElem_toArray, List.getElem_cons_succ, List.getElem_cons_zero, List.setIfInBounds_toArray, List.set_cons_zero, List.set_cons_succ])
        (refine wpAnyE_take (n := 12) (i := 7) (v := ?_) rfl (by kernel_rfl) (by kernel_rfl) (by kernel_rfl) (by kernel_rfl) (by kernel_rfl) (fun _ _ _ h => h) (Or.inl ⟨by rfl, ?_⟩) hHeld ?_; rotate_left; (focus (intro w hSw; (try dsimp only at hSw); go_simp; try (with_reducible rfl))); (try simp only [Act.put, List.getElem_toArray, List.getElem_cons_succ, List.getElem_cons_zero, List.setIfInBounds_toArray, List.set_cons_zero, List.set_cons_succ]))
        have bx := blk_below HX.out HBq7.out
        have bz := bx.1
        have bf := bx.2.2
        obtain ⟨x0, x1, x2, x3, _⟩ := blk4 bx
        clear bx
        refine wpAnyE_ready (rs := [8]) (by kernel_rfl) (by simp) (AllReadyE.last rfl (fun K hK => ?_))
        go_simp
        refine hK.out _ _ (trivial) (fun hHeld => ?_)
        clear hK K
        (try simp only [Act.put, List.getElem_toArray, List.getElem_cons_succ, List.getElem_cons_zero, List.setIfInBounds_toArray, List.set_cons_zero, List.set_cons_succ])
        refine wpAnyE_done (by kernel_rfl) ?_
        go_wp2_with fail
        go_meet
        case rel => exact ⟨g, cap, rfl, HFIN.out _ g cap HBq7.out OWq7.out⟩
    · skip
      go_simp
      refine hK.out _ _ (HS.out _ (b_alloc HBq0.out _)) (fun hHeld => ?_)
      clear hK K
      (try simp only [Act.put, List.getElem_toArray, List.getElem_cons_succ, List.getElem_cons_zero, List.setIfInBounds_toArray, List.set_cons_zero, List.set_cons_succ])
      refine wpAnyE_named ?_
      intro q8 hq8
      have HBq8 : Hid (Below W.heap.size W q8) := Lib.hid (by rw [hq8]; exact b_alloc HBq0.out _)
      obtain ⟨Y, hY⟩ : ∃ x, x = q0.heap.size := ⟨_, rfl⟩
      rw [← hY]
      have HYq8 : Hid (Blk q8 Y [.int .i64 v.k, .int .u64 v.b]) := Lib.hid (by rw [hq8]; exact blk_new3 hY)
      clear hq8 hY
      replace hHeld := HS.out _ HBq8.out
      refine wpAnyE_ready (rs := [0]) (by kernel_rfl) (by simp) (AllReadyE.cons rfl (fun K hK => ?_) AllReadyE.nil)
      go_simp
      refine hK.out _ _ (HS.out _ (b_alloc HBq8.out _)) (fun hHeld => ?_)
      clear hK K
      (try simp only [Act.put, List.getElem_toArray, List.getElem_cons_succ, List.getElem_cons_zero, List.setIfInBounds_toArray, List.set_cons_zero, List.set_cons_succ])
      refine wpAnyE_named ?_
      intro q9 hq9
      have HBq9 : Hid (Below W.heap.size W q9) := Lib.hid (by rw [hq9]; exact b_alloc HBq8.out _)
      obtain ⟨B, hB⟩ : ∃ x, x = q8.heap.size := ⟨_, rfl⟩
      rw [← hB]
      have OWq9 : Hid (OwnR valE VRT q9 W.heap.size (.slice (some ⟨B, 0, none⟩) 0 0) []) := Lib.hid (by rw [hq9, hB]; exact own_emptyR HBq8.out.size)
      have HYq9 : Hid (Blk q9 Y [.int .i64 v.k, .int .u64 v.b]) := Lib.hid (by rw [hq9]; exact blk_alloc HYq8.out _)
      have HNE : Hid (Y ≠ B) := Lib.hid (by have := HYq8.out.1; omega)
      clear hq9 hB
      replace hHeld := HS.out _ HBq9.out
      refine wpAnyE_ready (rs := [3]) (by kernel_rfl) (by simp) (AllReadyE.cons rfl (fun K hK => ?_) AllReadyE.nil)
      refine step_appendR rowVR (by rfl) _ _ (by rfl) W.heap.size _ [] (by rfl) OWq9.out _ SS (by rfl) (readR_below HSS.out HBq9.out) (by (have := HSL.out; have := HSK.out); simp only [List.length_nil]; omega) (by (have := HSL.out; have := HSK.out); simp only [List.length_nil]; unfold maxLen; omega) HBq9.out.size ?_
      intro V1 q10 ownq10 hgq10
      rw [List.nil_append] at ownq10
      have HBq10 := Lib.hid (b_ownR HBq9.out OWq9.out hgq10)
      have OWq10 := Lib.hid ownq10
      have HYq10 : Hid (Blk q10 Y [.int .i64 v.k, .int .u64 v.b]) := Lib.hid (blk_grown HYq9.out hgq10 (fun e => HNE.out (by injection e)))
      clear ownq10 hgq10
      refine hK.out _ _ (HS.out _ HBq10.out) (fun hHeld => ?_)
      clear hK K
      (try simp only [Act.put, List.getElem_toArray, List.getElem_cons_succ, List.getElem_cons_zero, List.setIfInBounds_toArray, List.set_cons_zero, List.set_cons_succ])
      refine wpAnyE_ready (rs := [6]) (by kernel_rfl) (by simp) (AllReadyE.cons rfl (fun K hK => ?_) AllReadyE.nil)
      refine step_append1 rowVR (by rfl) _ _ (by rfl) (by rfl) (B := W.heap.size) OWq10.out v Y 1 (by rfl) HYq10.out (by (have := HSL.out; have := HSK.out); omega) (by (have := HSL.out; have := HSK.out); unfold maxLen; omega) HBq10.out.size ?_
      intro g cap q11 ownq11 hgq11 horq11 hlq11
      have HBq11 := Lib.hid (b_ownR HBq10.out OWq10.out hgq11)
      have OWq11 := Lib.hid ownq11
      clear ownq11 hgq11 horq11 hlq11
      refine hK.out _ _ (HS.out _ HBq11.out) (fun hHeld => ?_)
      clear hK K
      (try simp only [Act.put, List.getElem_toArray, List.getElem_cons_succ, List.getElem_cons_zero, List.setIfInBounds_toArray, List.set_cons_zero, List.set_cons_succ])
      (refine wpAnyE_take (n := 12) (i := 7) (v := ?_) rfl (by kernel_rfl) (by kernel_rfl) (by kernel_rfl) (by kernel_rfl) (by kernel_rfl) (fun _ _ _ h => h) (Or.inl ⟨by rfl, ?_⟩) hHeld ?_; rotate_left; (focus (intro w hSw; (try dsimp only at hSw); go_simp; try (with_reducible rfl))); (try simp only [Act.put, List.getElem_toArray, List.getElem_cons_succ, List.getElem_cons_zero, List.setIfInBounds_toArray, List.set_cons_zero, List.set_cons_succ]))
      have bx := blk_below HX.out HBq11.out
      have bz := bx.1
      have bf := bx.2.2
      obtain ⟨x0, x1, x2, x3, _⟩ := blk4 bx
      clear bx
      refine wpAnyE_ready (rs := [8]) (by kernel_rfl) (by simp) (AllReadyE.last rfl (fun K hK => ?_))
      go_simp
      refine hK.out _ _ (trivial) (fun hHeld => ?_)
      clear hK K
      (try simp only [Act.put, List.getElem_toArray, List.getElem_cons_succ, List.getElem_cons_zero, List.setIfInBounds_toArray, List.set_cons_zero, List.set_cons_succ])
      refine wpAnyE_done (by kernel_rfl) ?_
      go_wp2_with fail
      go_meet
      case rel => exact ⟨g, cap, rfl, HFIN.out _ g cap HBq11.out OWq11.out⟩
  case rest =>
  obtain ⟨g, cap, rfl, HXX, HOK, HBX⟩ := hcut
  obtain ⟨W9, hW9⟩ : ∃ x, x = wc := ⟨_, rfl⟩
  subst hW9
  obtain ⟨x0, x1, x2, x3, _⟩ := blk4 HXX.out
  have xz := HXX.out.1
  obtain ⟨V, vx, hR, hl, hk, _⟩ := doc_R2 HDD.out
  have HVK := Lib.hid (And.intro hl hk)
  have HWI := Lib.hid (rwith_any (docR_below hR HBX.out) ⟨m.f, m.at_, ⟨wa, m.loc.length, wcap⟩, ⟨some ⟨g, 0, none⟩, m.stk.length + 1, cap⟩⟩ (by have := HLL.out; omega))
  clear hR hl hk
  rw [HSL.out] at x3
  unfold rp aggRf at HWI
  simp only at HWI
  go_wp2_with fail
  refine HWI.out.mono ?_
  rintro e w9 ⟨rfl, lv', hd', hg'⟩
  have HD9 := Lib.hid hd'
  have HG9' := Lib.hid hg'
  have HG9 := Lib.hid (gx_pre HBX.out hg')
  clear hd' hg' x0 x1 x2 x3 xz
  go_wp2_with fail
  go_ret
  have hok := HOK.out
  have hv9 : RfOk w9 ⟨m.f, m.at_, ⟨wa, m.loc.length, wcap⟩, ⟨some ⟨g, 0, none⟩, m.stk.length + 1, cap⟩⟩ ⟨m.f, m.at_, m.loc, m.stk ++ [v]⟩ := rfOk_gx (tyB_call HDD.out.ty HBX.out) ⟨rfl, rfl, hok.l, hok.lt, hok.s, hok.st⟩ HG9'.out
  exact ⟨rfl, lv', doc_with HDD.out HG9.out HVK.out.1 HVK.out.2 HD9.out hv9, HG9.out⟩
end
end Go.Proofs.Ytdmidnmciaediaa
