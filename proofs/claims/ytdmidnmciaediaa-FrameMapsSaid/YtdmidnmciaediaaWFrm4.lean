/- Layer 28: the contracts of Call. Conditions: those stated. -/
import Derived.Test.YtdmidnmciaediaaWFrm1
import Derived.Test.YtdmidnmciaediaaWHeldE
namespace Go.Proofs.Ytdmidnmciaediaa
open Go.RowKit
set_option linter.unusedVariables false
set_option linter.unusedSimpArgs false
attribute [local go_sem] over_cell over_frozen
def fz : FnM := ⟨[], [], 0, []⟩
def zeroV (ks : List Int) : List ValM := ks.map (fun k => ⟨k, 0⟩)
variable {w0 w w' : World} {s : Nat} {p : PrV} {P : PrM} {lv : Sl} {ds : List FrD} {L : List FrM} {d : FrD} {m : FrM}
theorem frs_cells (h : FrsAt w0 w s p lv ds L) : w.cell? ⟨s, 3, none⟩ = some (.slice p.f.a p.f.n p.f.c) ∧ w.cell? ⟨s, 4, none⟩ = some (.slice lv.a L.length lv.c) ∧ ∀ i, w.frozen? ⟨s, i, none⟩ = false := by
  have c3 := h.hd.2.1 3 (by simp)
  have c4 := h.hd.2.1 4 (by simp)
  rw [← (frs_len h).1]
  exact ⟨c3, c4, h.hd.2.2⟩
/-- A function of the program, in memory. -/
structure FnAt (w : World) (b o k : Nat) (pv lv : Sl) (cv : Sl) (f : FnM) : Prop where
  p : w.cell? ⟨b, o + k * 4, none⟩ = some (.slice pv.a pv.n pv.c)
  l : w.cell? ⟨b, o + k * 4 + 1, none⟩ = some (.slice lv.a lv.n lv.c)
  c : w.cell? ⟨b, o + k * 4 + 3, none⟩ = some (.slice cv.a cv.n cv.c)
  rp : ReadI w (.slice pv.a pv.n pv.c) f.ps
  rl : ReadI w (.slice lv.a lv.n lv.c) f.ls
  rc : ReadR inE w (.slice cv.a cv.n cv.c) f.code
  lt : b < w.heap.size
theorem fnAt_below {b o k : Nat} {pv lv cv : Sl} {f : FnM} (h : FnAt w b o k pv lv cv f) (hb : Below w.heap.size w w') : FnAt w' b o k pv lv cv f :=
  ⟨((bcell hb).1 _ _ h.lt).trans h.p, ((bcell hb).1 _ _ h.lt).trans h.l, ((bcell hb).1 _ _ h.lt).trans h.c, readI_below h.rp hb, readI_below h.rl hb, readR_below h.rc hb, Nat.lt_of_lt_of_le h.lt hb.size⟩
/-- The functions' row, and one of it. -/
theorem fns_at (h : ReadP w p P) {k : Nat} (hk : k < P.fs.length) : ∃ b o, p.f.a = some ⟨b, o, none⟩ ∧ ∃ pv lv cv, FnAt w b o k pv lv cv P.fs[k] := by
  obtain ⟨Lf, hr, hA⟩ := h.f
  have hlen := allF_len hA
  obtain ⟨b, o, cap, e, h1, h2, h3, h4⟩ := readR_pos hr (by omega)
  have e1 : p.f.a = some ⟨b, o, none⟩ := by
    have e2 : Value.slice p.f.a p.f.n p.f.c = .slice (some ⟨b, o, none⟩) Lf.length cap := e
    injection e2
  have hd := allF_at hA k (by omega) hk
  obtain ⟨c0, c1, c2, c3⟩ := fn_cells h4 k (by omega)
  exact ⟨b, o, e1, Lf[k].p, Lf[k].l, Lf[k].c, c0, c1, c3, hd.p, hd.l, hd.c, h3⟩
theorem fns_len (h : ReadP w p P) : p.f.n = P.fs.length ∧ P.fs.length ≤ p.f.c ∧ p.f.c ≤ maxLen := by
  obtain ⟨Lf, hr, hA⟩ := h.f
  have hlen := allF_len hA
  obtain ⟨a, cap, e, e2, e3⟩ := readR_len hr
  have e4 : Value.slice p.f.a p.f.n p.f.c = .slice a Lf.length cap := e
  injection e4 with _ e5 e6
  rw [e6, ← hlen]; exact ⟨e5, e2, e3⟩
theorem fcall_out (h : FrsAt w0 w s p lv ds L) (hP : ReadP w0 p P) (f : Int) (v : Value) (hf : ¬ (0 ≤ f ∧ f < P.fs.length)) : Calls Try.prog 18 #[fp s, .int .i64 f, v] w fun e w' => e = .returned (.int .i64 1) ∧ w = w' := by
  obtain ⟨c3, _, _⟩ := frs_cells h
  obtain ⟨n1, n2, n3⟩ := fns_len hP
  rw [n1] at c3
  have hcap := cap_le n3
  unfold fp
  clear h hP n1
  rcases (show f < 0 ∨ (0 ≤ f ∧ (P.fs.length : Int) ≤ f) by omega) with q | ⟨q1, q2⟩
  · go_enter Try.func18, Try.ntmps18
    go_wp2_with fail
    go_ret
    exact ⟨rfl, rfl⟩
  · have q3 : ¬ (f < P.fs.length) := by omega
    go_enter Try.func18, Try.ntmps18
    go_wp2_with fail
    go_ret
    exact ⟨rfl, rfl⟩
theorem fcall_kinds {a : Option Addr} {n c : Nat} {A : List ValM} (h : FrsAt w0 w s p lv ds L) (hP : ReadP w0 p P) (hS : SmallP P) (k : Nat) (hk : k < P.fs.length) (hA : ReadR valE w (.slice a n c) A) (hl : A.length ≤ 100) (hne : kindsV A ≠ P.fs[k].ps) : Calls Try.prog 18 #[fp s, .int .i64 k, .slice a n c] w fun e w' => e = .returned (.int .i64 1) ∧ Below w.heap.size w w' := by
  obtain ⟨c3, _, _⟩ := frs_cells h
  obtain ⟨n1, n2, n3⟩ := fns_len hP
  obtain ⟨b, o, ea, pv, lv2, cv, hF0⟩ := fns_at hP hk
  have hF := fnAt_below hF0 h.be
  rw [n1, ea] at c3
  have hcap := cap_le n3
  have hsm := (hS.a _ (List.getElem_mem hk)).p
  have OF := Lib.hid (of_any hA hF.rp hl (by omega))
  rw [decide_eq_false hne] at OF
  have d0 := hF.p
  have k0 : (0 : Int) ≤ k := by omega
  have k1 : (k : Int) < P.fs.length := by omega
  have k2 : k < p.f.c := by omega
  unfold fp
  generalize P.fs[k] = f at *
  clear h hP hF0 hF n1 ea hA hne hk
  go_enter Try.func18, Try.ntmps18
  go_wp2_with fail
  refine OF.out.mono ?_
  rintro e w1 ⟨rfl, hb1⟩
  go_wp2_with fail
  go_ret
  exact ⟨rfl, hb1⟩
theorem fcall_full {a : Option Addr} {n c : Nat} {A : List ValM} (h : FrsAt w0 w s p lv ds L) (hP : ReadP w0 p P) (hS : SmallP P) (k : Nat) (hk : k < P.fs.length) (hA : ReadR valE w (.slice a n c) A) (hl : A.length ≤ 100) (hne : kindsV A = P.fs[k].ps) (hL : L.length = 24) : Calls Try.prog 18 #[fp s, .int .i64 k, .slice a n c] w fun e w' => e = .returned (.int .i64 5) ∧ Below w.heap.size w w' := by
  obtain ⟨c3, _, _⟩ := frs_cells h
  obtain ⟨n1, n2, n3⟩ := fns_len hP
  obtain ⟨b, o, ea, pv, lv2, cv, hF0⟩ := fns_at hP hk
  have hF := fnAt_below hF0 h.be
  rw [n1, ea] at c3
  have hcap := cap_le n3
  have hsm := (hS.a _ (List.getElem_mem hk)).p
  have OF := Lib.hid (of_any hA hF.rp hl (by omega))
  rw [decide_eq_true hne] at OF
  have d0 := hF.p
  have H := Lib.hid h
  have HLL := Lib.hid hL
  have k0 : (0 : Int) ≤ k := by omega
  have k1 : (k : Int) < P.fs.length := by omega
  have k2 : k < p.f.c := by omega
  unfold fp
  generalize P.fs[k] = f at *
  clear h hP hF0 hF n1 ea hA hne hk hL
  go_enter Try.func18, Try.ntmps18
  go_wp2_with fail
  refine OF.out.mono ?_
  rintro e w1 ⟨rfl, hb1⟩
  obtain ⟨_, c4, _⟩ := frs_cells (frs_below H.out hb1)
  rw [HLL.out] at c4
  go_wp2_with fail
  go_ret
  exact ⟨rfl, hb1⟩
theorem loc_ok {B : Nat} {w W2 w3 : World} {v : ValM} {g cap : Nat} (h : FrOk B w d m) (hb : Below w.heap.size w W2) (hown : OwnR valE VALT w3 B (.slice (some ⟨g, 0, none⟩) (m.loc.length + 1) cap) (m.loc ++ [v])) (hg : W2.grownBy w3 d.lv.v.ownBlock) (hor : d.lv.v.ownBlock = some g ∨ g = W2.heap.size) :
    FrOk B (w3.setCell ⟨d.b, 2, none⟩ (.slice (some ⟨g, 0, none⟩) (m.loc.length + 1) cap)) ⟨d.b, ⟨some ⟨g, 0, none⟩, m.loc.length + 1, cap⟩, d.sv⟩ ⟨m.f, m.at_, m.loc ++ [v], m.stk⟩ ∧ GrowX W2 (w3.setCell ⟨d.b, 2, none⟩ (.slice (some ⟨g, 0, none⟩) (m.loc.length + 1) cap)) (fun j => j = d.b ∨ d.lv.v.ownBlock = some j) := by
  have hO := frOk_gx h (gx_below hb (fun _ => False)) (fun e => e) (fun _ _ e => e)
  have g1 : GrowX W2 w3 (fun j => d.lv.v.ownBlock = some j) := gx_gb (X := fun j => d.lv.v.ownBlock = some j) hg (fun k e => e)
  have nb : ¬ d.lv.v.ownBlock = some d.b := fun e => ownR_ne hO.l hO.ty (by decide) d.b e rfl
  have hO3h := blk_gx hO.hd g1 nb
  have hO3t := tyB_gx hO.ty g1 nb
  have s3 := ownR_gx hO.s g1 (fun k hk e => hO.ne k e hk)
  have g2 : GrowX w3 (w3.setCell ⟨d.b, 2, none⟩ (.slice (some ⟨g, 0, none⟩) (m.loc.length + 1) cap)) (fun j => j = d.b) := gx_set (X := fun j => j = d.b) (gx_refl _ _) (Or.inr rfl) _
  refine ⟨⟨blk_set hO3h 2 _, by rw [tyB_set]; exact hO3t, ownR_gx hown g2 (fun k hk e => ownR_ne hown hO3t (by decide) k hk e), ownR_gx s3 g2 (fun k hk e => ownR_ne s3 hO3t (by decide) k hk e), fun k hk e => ?_, hO.lo⟩, gx_trans g1 g2 (fun k _ e => Or.inr e) (fun k _ e => Or.inl e)⟩
  have e1 : g = k := by have e2 : some g = some k := hk; injection e2
  subst e1
  rcases hor with q | q
  · exact hO.ne g q e
  · have := (ownR_lt hO.s g e).2; omega
/-- The new one's pointer is laid behind the others'. -/
theorem more_done {W2 w7 : World} {g cap : Nat} (h : FrsAt w0 w s p lv ds L) (hb : Below w.heap.size w W2) (hd : FrOk w0.heap.size W2 d m) (hn1 : w.heap.size ≤ d.b) (hn2 : ∀ k, d.owns k → w.heap.size ≤ k)
    (ho : OwnR ptrE FPTT w7 w0.heap.size (.slice (some ⟨g, 0, none⟩) ((ds.map FrD.b).length + 1) cap) (ds.map FrD.b ++ [d.b])) (hg : W2.grownBy w7 lv.v.ownBlock) :
    FrsAt w0 (w7.setCell ⟨s, 4, none⟩ (.slice (some ⟨g, 0, none⟩) ((ds.map FrD.b).length + 1) cap)) s p ⟨some ⟨g, 0, none⟩, (ds.map FrD.b).length + 1, cap⟩ (ds ++ [d]) (L ++ [m]) ∧ GrT w (w7.setCell ⟨s, 4, none⟩ (.slice (some ⟨g, 0, none⟩) ((ds.map FrD.b).length + 1) cap)) := by
  have h2 := frs_below h hb
  have nb : some s ≠ lv.v.ownBlock := fun e => frs_row_ne h2 h2.ty (by decide) s e.symm rfl
  have b7 := blk_grown h2.hd hg nb
  have t7 := tyB_grown h2.ty hg nb
  have g2 : GrowX w7 (w7.setCell ⟨s, 4, none⟩ (.slice (some ⟨g, 0, none⟩) ((ds.map FrD.b).length + 1) cap)) (fun j => j = s) := gx_set (X := fun j => j = s) (gx_refl _ _) (Or.inr rfl) _
  have g3 : GrowX W2 (w7.setCell ⟨s, 4, none⟩ (.slice (some ⟨g, 0, none⟩) ((ds.map FrD.b).length + 1) cap)) (fun j => j = s ∨ lv.v.ownBlock = some j) := gx_trans (gx_gb (X := fun j => lv.v.ownBlock = some j) hg (fun k e => e)) g2 (fun k _ e => Or.inr e) (fun k _ e => Or.inl e)
  refine ⟨frs_more h hb hd hn1 hn2 g3 (blk_set b7 4 _) (by rw [tyB_set]; exact t7) ?_, grT_trans (grT_below hb) (grT_of g3 (fun j _ e => ?_))⟩
  · rw [List.map_append]
    exact ownR_gx ho g2 (fun k hk e => ownR_ne ho t7 (by decide) k hk e)
  · rcases e with e | e
    · rw [e]; exact Or.inl h2.ty
    · exact Or.inr (Or.inl (ownR_ty h2.row j e))
theorem frOk_mono {B B' : Nat} (h : FrOk B w d m) (hB : B' ≤ B) : FrOk B' w d m := ⟨h.hd, h.ty, ownR_mono h.l hB, ownR_mono h.s hB, h.ne, Nat.le_trans hB h.lo⟩
def CallEnd (w0 w : World) (s : Nat) (p : PrV) (L : List FrM) (m : FrM) (e : Ending) (w' : World) : Prop :=
  e = .returned (.int .i64 0) ∧ (∃ lv ds, FrsAt w0 w' s p lv ds (L ++ [m])) ∧ GrT w w'
set_option maxRecDepth 100000 in
set_option maxHeartbeats 2000000 in
theorem fcall_any {a : Option Addr} {n c : Nat} {A : List ValM} (h : FrsAt w0 w s p lv ds L) (hP : ReadP w0 p P) (hS : SmallP P) (k : Nat) (hk : k < P.fs.length) (hA : ReadR valE w (.slice a n c) A) (hl : A.length ≤ 100) (hne : kindsV A = P.fs[k].ps) (hL : L.length < 24) : Calls Try.prog 18 #[fp s, .int .i64 k, .slice a n c] w (CallEnd w0 w s p L ⟨k, 0, A ++ zeroV P.fs[k].ls, []⟩) := by
  obtain ⟨c3, _, _⟩ := frs_cells h
  obtain ⟨n1, n2, n3⟩ := fns_len hP
  obtain ⟨b, o, ea, pv, lv2, cv, hF0⟩ := fns_at hP hk
  have hF := fnAt_below hF0 h.be
  rw [n1, ea] at c3
  have hcap := cap_le n3
  have hsm := (hS.a _ (List.getElem_mem hk)).p
  have HSL := Lib.hid (hS.a _ (List.getElem_mem hk)).l
  have OF := Lib.hid (of_any hA hF.rp hl (by omega))
  rw [decide_eq_true hne] at OF
  have d0 := hF.p
  have H := Lib.hid h
  have HF := Lib.hid hF
  have hL2 : ¬ ((L.length : Int) = 24) := by omega
  have hL3 : ((L.length : Int) == 24) = false := by rw [beq_eq_false_iff_ne]; exact hL2
  have HLL := Lib.hid hL
  have HAL := Lib.hid hl
  have HA := Lib.hid hA
  have k0 : (0 : Int) ≤ k := by omega
  have k1 : (k : Int) < P.fs.length := by omega
  have k2 : k < p.f.c := by omega
  have HEA := Lib.hid (And.intro n1 ea)
  generalize P.fs[k] = f at *
  unfold fp
  clear h hP hF0 hF n1 ea hA hne hk hL2 hL hl
  go_enter Try.func18, Try.ntmps18
  go_wp2_with fail
  refine OF.out.mono ?_
  rintro e w1 ⟨rfl, hb1⟩
  obtain ⟨_, c4, _⟩ := frs_cells (frs_below H.out hb1)
  clear d0
  go_wp2_with fail
  refine (vclone_any (s := ⟨a, n, c⟩) (readR_below HA.out hb1) HAL.out).mono ?_
  rintro e w2 ⟨s2, rfl, own2, hb2⟩
  have hB2 := b_call hb1 hb2
  have O2 := Lib.hid own2
  have hs1 := hb1.size
  clear own2 c3 c4 hb1 hb2
  unfold Sl.v
  go_upto_region 8 with fail
  refine wp_named ?_
  intro wf hwf
  have BF : Blk wf w2.heap.size [.int .i64 k, .int .i64 0, .slice s2.a s2.n s2.c, .slice none 0 0] := by rw [hwf]; exact blk_new _ _ _
  have TF : tyB wf w2.heap.size = some FRMT := by rw [hwf]; exact tyB_new _ _ _
  have hBf : Below w.heap.size w wf := by rw [hwf]; exact b_alloc hB2 _
  have hOf : Hid (FrOk w.heap.size wf ⟨w2.heap.size, s2, ⟨none, 0, 0⟩⟩ ⟨k, 0, A ++ zeroV (f.ls.take 0), []⟩) := by
    refine ⟨BF, TF, ?_, ownR_nil _ _, fun _ _ e => (by cases e), hB2.size⟩
    rw [List.take_zero]
    show OwnR valE VALT wf w.heap.size s2.v (A ++ [])
    rw [List.append_nil, hwf]
    exact ownR_alloc (ownR_mono O2.out hs1) _
  have hF2 := fnAt_below HF.out hBf
  obtain ⟨c3, _, _⟩ := frs_cells (frs_below H.out hBf)
  rw [HEA.out.1, HEA.out.2] at c3
  have d1 := hF2.l
  have HRL := Lib.hid HF.out.rl
  obtain ⟨rl1, rl2, rl3⟩ := sli_cap hF2.rl
  have hll : (f.ls.length : Int) ≤ 10 := by have := HSL.out; omega
  rw [rl3] at d1 HRL
  have HBF := Lib.hid hBf
  have hxw : Hid (w.heap.size ≤ w2.heap.size) := hOf.out.lo
  have HB0 : Hid (w0.heap.size ≤ w.heap.size) := H.out.be.size
  clear hwf BF TF hF2 hBf rl1 rl2 rl3 O2 hB2 hs1
  obtain ⟨x, hx⟩ : ∃ x, x = w2.heap.size := ⟨_, rfl⟩
  rw [← hx] at hOf hxw ⊢
  clear hx
  go_wp2_with fail
  go_loopw [62] (fun i wr => ∃ (j : Nat) (v2 : Sl), j ≤ f.ls.length ∧ i = .int .i64 j ∧ Hid (FrOk w.heap.size wr ⟨x, v2, ⟨none, 0, 0⟩⟩ ⟨k, 0, A ++ zeroV (f.ls.take j), []⟩) ∧ Hid (Below w.heap.size w wr)) (fun i _ => f.ls.length - (intOf i).toNat)
  case atStart => exact ⟨0, s2, Nat.zero_le _, rfl, hOf, HBF⟩
  case round =>
    obtain ⟨j, v2, hj, rfl, hO, hb⟩ := hrel
    by_cases hlt : j < f.ls.length
    · obtain ⟨bl, ol, cl, e, q1, q2, q3, q4⟩ := readI_pos HRL.out (by omega)
      injection e with e1 e2 e3
      rw [e1]
      have y0 := q4 j hlt
      rw [← (bcell hb.out).1 _ _ q3] at y0
      have j0 : (0 : Int) ≤ j := by omega
      have j1 : (j : Int) < f.ls.length := by omega
      have HZ : Hid (zeroV (f.ls.take (j + 1)) = zeroV (f.ls.take j) ++ [⟨f.ls.getD j 0, 0⟩]) := by
        show _ = _
        unfold zeroV
        rw [List.take_succ_eq_append_getElem hlt, List.map_append, List.getD_eq_getElem?_getD, List.getElem?_eq_getElem hlt]; rfl
      generalize f.ls.getD j 0 = z at *
      obtain ⟨l1, l2, l3⟩ := own_sl hO.out.l
      obtain ⟨_, _, x2, _, xf⟩ := fr_cells (w0 := w) hO.out
      simp only at x2 xf l1 l2
      generalize hM : A ++ zeroV (f.ls.take j) = M at *
      have HM := Lib.hid hM
      have hMl : Hid (M.length ≤ 110) := by
        show _ ≤ _
        rw [← hM, List.length_append]; unfold zeroV; rw [List.length_map, List.length_take]
        have := HAL.out; have := HSL.out; omega
      have HLV : Hid (v2.v = .slice v2.a M.length v2.c) := by show _ = _; unfold Sl.v; rw [l1]
      have hxl := hO.out.hd.1
      simp only at hxl
      have PZ : Hid (∀ W2 : World, Below wr.heap.size wr W2 → W2.cell? ⟨x, 2, none⟩ = some (.slice v2.a M.length v2.c) ∧ ∀ i, W2.frozen? ⟨x, i, none⟩ = false) := by
        intro W2 hb2
        obtain ⟨_, _, y2, _, yf⟩ := fr_cells (w0 := w) (frOk_gx hO.out (gx_below hb2 (fun _ => False)) (fun e => e) (fun _ _ e => e))
        exact ⟨y2, yf⟩
      have PY : Hid (∀ W2 w7 : World, Below wr.heap.size wr W2 → W2.grownBy w7 (Value.slice v2.a M.length v2.c).ownBlock → w7.cell? ⟨x, 2, none⟩ = some (.slice v2.a M.length v2.c) ∧ ∀ i, w7.frozen? ⟨x, i, none⟩ = false) := by
        intro W2 w7 hb2 hg
        have hO2 := frOk_gx hO.out (gx_below hb2 (fun _ => False)) (fun e => e) (fun _ _ e => e)
        have nb : some x ≠ (Value.slice v2.a M.length v2.c).ownBlock := by
          intro e
          rw [← HLV.out] at e
          exact ownR_ne hO2.l hO2.ty (by decide) x e.symm rfl
        obtain ⟨_, _, y3, _, yf⟩ := blk4 (blk_grown hO2.hd hg nb)
        simp only at y3
        rw [l1] at y3
        exact ⟨y3, yf⟩
      have PD : Hid (∀ W2 w7 : World, ∀ g cap, Below wr.heap.size wr W2 → OwnR valE VALT w7 w.heap.size (.slice (some ⟨g, 0, none⟩) (M.length + 1) cap) (M ++ [⟨z, 0⟩]) → W2.grownBy w7 (Value.slice v2.a M.length v2.c).ownBlock → ((Value.slice v2.a M.length v2.c).ownBlock = some g ∨ g = W2.heap.size) → FrOk w.heap.size (w7.setCell ⟨x, 2, none⟩ (.slice (some ⟨g, 0, none⟩) (M.length + 1) cap)) ⟨x, ⟨some ⟨g, 0, none⟩, M.length + 1, cap⟩, ⟨none, 0, 0⟩⟩ ⟨k, 0, A ++ zeroV (f.ls.take (j + 1)), []⟩ ∧ Below w.heap.size w (w7.setCell ⟨x, 2, none⟩ (.slice (some ⟨g, 0, none⟩) (M.length + 1) cap))) := by
        intro W2 w7 g cap hb2 ho hg hor
        rw [← HLV.out] at hg hor
        obtain ⟨r1, r2⟩ := loc_ok (d := ⟨x, v2, ⟨none, 0, 0⟩⟩) (m := ⟨k, 0, M, []⟩) (v := ⟨z, 0⟩) hO.out hb2 ho hg hor
        rw [HZ.out, ← List.append_assoc, HM.out]
        refine ⟨r1, b_gx (b_call hb.out hb2) r2 (fun q hq => ?_)⟩
        rcases hq with rfl | hq
        · exact hxw.out
        · exact (ownR_lt hO.out.l q hq).1
      have HOL := Lib.hid hO.out.l
      clear q4 e1 e2 e3 l1 l2 l3 hM
      go_wp2_with fail
      refine wp_region_E (S := fun w' => w'.cell? ⟨x, 2, none⟩ = some (.slice v2.a M.length v2.c)) 11 (by kernel_rfl) (PZ.out _ (b_drew (Below.refl _ _))).1 (fun hHeld => ?_)
      (refine wpAnyE_take (n := 12) (i := 0) (v := ?_) rfl (by kernel_rfl) (by kernel_rfl) (by kernel_rfl) (by kernel_rfl) (by kernel_rfl) (fun _ _ _ h => h) (Or.inl ⟨by rfl, ?_⟩) hHeld ?_; rotate_left; (focus (intro w hSw; (try dsimp only at hSw); go_simp; try (with_reducible rfl))); (try simp only [Act.put, List.getElem_toArray, List.getElem_cons_succ, List.getElem_cons_zero, List.setIfInBounds_toArray, List.set_cons_zero, List.set_cons_succ]))
      (refine wpAnyE_take (n := 12) (i := 1) (v := ?_) rfl (by kernel_rfl) (by kernel_rfl) (by kernel_rfl) (by kernel_rfl) (by kernel_rfl) (fun _ _ _ h => h) (Or.inl ⟨by rfl, ?_⟩) hHeld ?_; rotate_left; (focus (intro w hSw; (try dsimp only at hSw); go_simp; try (with_reducible rfl))); (try simp only [Act.put, List.getElem_toArray, List.getElem_cons_succ, List.getElem_cons_zero, List.setIfInBounds_toArray, List.set_cons_zero, List.set_cons_succ]))
      (refine wpAnyE_take (n := 12) (i := 2) (v := ?_) rfl (by kernel_rfl) (by kernel_rfl) (by kernel_rfl) (by kernel_rfl) (by kernel_rfl) (fun _ _ _ h => h) (Or.inl ⟨by rfl, ?_⟩) hHeld ?_; rotate_left; (focus (intro w hSw; (try dsimp only at hSw); go_simp; try (with_reducible rfl))); (try simp only [Act.put, List.getElem_toArray, List.getElem_cons_succ, List.getElem_cons_zero, List.setIfInBounds_toArray, List.set_cons_zero, List.set_cons_succ]))
      (refine wpAnyE_take (n := 12) (i := 3) (v := ?_) rfl (by kernel_rfl) (by kernel_rfl) (by kernel_rfl) (by kernel_rfl) (by kernel_rfl) (fun _ _ _ h => h) (Or.inl ⟨by rfl, ?_⟩) hHeld ?_; rotate_left; (focus (intro w hSw; (try dsimp only at hSw); go_simp; try (with_reducible rfl))); (try simp only [Act.put, List.getElem_toArray, List.getElem_cons_succ, List.getElem_cons_zero, List.setIfInBounds_toArray, List.set_cons_zero, List.set_cons_succ]))
      (refine wpAnyE_take (n := 12) (i := 4) (v := ?_) rfl (by kernel_rfl) (by kernel_rfl) (by kernel_rfl) (by kernel_rfl) (by kernel_rfl) (fun _ _ _ h => h) (Or.inl ⟨by rfl, ?_⟩) hHeld ?_; rotate_left; (focus (intro w hSw; (try dsimp only at hSw); go_simp; try (with_reducible rfl))); (try simp only [Act.put, List.getElem_toArray, List.getElem_cons_succ, List.getElem_cons_zero, List.setIfInBounds_toArray, List.set_cons_zero, List.set_cons_succ]))
      (refine wpAnyE_take (n := 12) (i := 5) (v := ?_) rfl (by kernel_rfl) (by kernel_rfl) (by kernel_rfl) (by kernel_rfl) (by kernel_rfl) (fun _ _ _ h => h) (Or.inl ⟨by rfl, ?_⟩) hHeld ?_; rotate_left; (focus (intro w hSw; (try dsimp only at hSw); go_simp; try (with_reducible rfl))); (try simp only [Act.put, List.getElem_toArray, List.getElem_cons_succ, List.getElem_cons_zero, List.setIfInBounds_toArray, List.set_cons_zero, List.set_cons_succ]))
      refine wpAnyE_ready (rs := [6]) (by kernel_rfl) (by simp) (AllReadyE.cons rfl (fun K hK => ?_) AllReadyE.nil)
      go_simp
      refine (vzero_any _ _).mono ?_
      rintro e w8 ⟨rfl, hb8⟩
      unfold aggV
      have hB8 : Below wr.heap.size wr w8 := b_call (b_drew (Below.refl _ _)) hb8
      refine hK.out _ _ ((PZ.out _ hB8).1) (fun hHeld => ?_)
      clear hK K
      (try simp only [Act.put, List.getElem_toArray, List.getElem_cons_succ, List.getElem_cons_zero, List.setIfInBounds_toArray, List.set_cons_zero, List.set_cons_succ])
      refine wpAnyE_ready (rs := [7]) (by kernel_rfl) (by simp) (AllReadyE.cons rfl (fun K hK => ?_) AllReadyE.nil)
      go_simp
      refine hK.out _ _ ((PZ.out _ (b_alloc hB8 _)).1) (fun hHeld => ?_)
      clear hK K
      (try simp only [Act.put, List.getElem_toArray, List.getElem_cons_succ, List.getElem_cons_zero, List.setIfInBounds_toArray, List.set_cons_zero, List.set_cons_succ])
      refine wpAnyE_ready (rs := [8]) (by kernel_rfl) (by simp) (AllReadyE.cons rfl (fun K hK => ?_) AllReadyE.nil)
      refine step_append1 (c := valE) valT (by rfl) _ _ (by rfl) (by rfl) (v := .slice v2.a M.length v2.c) (L := M) (B := w.heap.size) (by rw [← HLV.out]; exact ownR_below HOL.out (b_alloc hB8 _)) ⟨z, 0⟩ _ 1 (by rfl) (blk_new3 (by simp)) (by have := hMl.out; omega) (by unfold maxLen; have := hMl.out; omega) (by simp; have := hb.out.size; have := hB8.size; omega) ?_
      intro g cap w7 ho7 hg7 hor7 hl7
      obtain ⟨z3, zf⟩ := PY.out _ w7 (b_alloc hB8 _) hg7
      have D7 := Lib.hid (PD.out _ w7 g cap (b_alloc hB8 _) ho7 hg7 hor7)
      clear ho7 hg7 hor7
      refine hK.out _ _ (z3) (fun hHeld => ?_)
      clear hK K
      (try simp only [Act.put, List.getElem_toArray, List.getElem_cons_succ, List.getElem_cons_zero, List.setIfInBounds_toArray, List.set_cons_zero, List.set_cons_succ])
      (refine wpAnyE_take (n := 12) (i := 9) (v := ?_) rfl (by kernel_rfl) (by kernel_rfl) (by kernel_rfl) (by kernel_rfl) (by kernel_rfl) (fun _ _ _ h => h) (Or.inl ⟨by rfl, ?_⟩) hHeld ?_; rotate_left; (focus (intro w hSw; (try dsimp only at hSw); go_simp; try (with_reducible rfl))); (try simp only [Act.put, List.getElem_toArray, List.getElem_cons_succ, List.getElem_cons_zero, List.setIfInBounds_toArray, List.set_cons_zero, List.set_cons_succ]))
      (refine wpAnyE_take (n := 12) (i := 10) (v := ?_) rfl (by kernel_rfl) (by kernel_rfl) (by kernel_rfl) (by kernel_rfl) (by kernel_rfl) (fun _ _ _ h => h) (Or.inl ⟨by rfl, ?_⟩) hHeld ?_; rotate_left; (focus (intro w hSw; (try dsimp only at hSw); go_simp; try (with_reducible rfl))); (try simp only [Act.put, List.getElem_toArray, List.getElem_cons_succ, List.getElem_cons_zero, List.setIfInBounds_toArray, List.set_cons_zero, List.set_cons_succ]))
      refine wpAnyE_ready (rs := [11]) (by kernel_rfl) (by simp) (AllReadyE.last rfl (fun K hK => ?_))
      go_simp
      refine hK.out _ _ (trivial) (fun hHeld => ?_)
      clear hK K
      (try simp only [Act.put, List.getElem_toArray, List.getElem_cons_succ, List.getElem_cons_zero, List.setIfInBounds_toArray, List.set_cons_zero, List.set_cons_succ])
      refine wpAnyE_done (by kernel_rfl) ?_
      go_wp2_with fail
      go_roundw
      case rel => exact ⟨j + 1, _, by omega, by go_num, D7.out.1, D7.out.2⟩
      case measure => simp only [intOf]; omega
    · have ej : j = f.ls.length := by omega
      have hO1 : FrOk w.heap.size wr ⟨x, v2, ⟨none, 0, 0⟩⟩ ⟨k, 0, A ++ zeroV f.ls, []⟩ := by
        have q := hO.out
        rw [List.take_of_length_le (by omega)] at q
        exact q
      have HO1 := Lib.hid hO1
      have h1 := frs_below H.out hb.out
      obtain ⟨_, c4, cf4⟩ := frs_cells h1
      have hsl := h1.hd.1
      have hrow : OwnR ptrE FPTT wr w0.heap.size (.slice lv.a L.length lv.c) (ds.map FrD.b) := by
        have q := h1.row
        unfold Sl.v at q
        rw [(frs_len h1).1] at q
        exact q
      have HROW := Lib.hid hrow
      have hdl : Hid ((ds.map FrD.b).length < 24) := by show _ < _; rw [List.length_map, (frs_len h1).2]; exact HLL.out
      have HLVV : Hid (lv.v = .slice lv.a L.length lv.c) := by show _ = _; unfold Sl.v; rw [(frs_len h1).1]
      have H1 := Lib.hid h1
      have PQ : Hid (∀ w7 : World, (wr.alloc (.cells #[.pointer (some ⟨x, 0, none⟩)] FPTT)).grownBy w7 (Value.slice lv.a L.length lv.c).ownBlock → w7.cell? ⟨s, 4, none⟩ = some (.slice lv.a L.length lv.c) ∧ ∀ i, w7.frozen? ⟨s, i, none⟩ = false) := by
        intro w7 hg
        have h2 := frs_below H1.out (b_alloc (Below.refl _ _) (.cells #[.pointer (some ⟨x, 0, none⟩)] FPTT))
        have nb : some s ≠ (Value.slice lv.a L.length lv.c).ownBlock := fun e => by
          rw [← HLVV.out] at e
          exact frs_row_ne h2 h2.ty (by decide) s e.symm rfl
        have b7 := blk_grown h2.hd hg nb
        have y := b7.2.1 4 (by simp)
        rw [← (frs_len h2).1]
        exact ⟨y, b7.2.2⟩
      have PR : Hid (∀ w7 : World, ∀ g cap, OwnR ptrE FPTT w7 w0.heap.size (.slice (some ⟨g, 0, none⟩) ((ds.map FrD.b).length + 1) cap) (ds.map FrD.b ++ [x]) → (wr.alloc (.cells #[.pointer (some ⟨x, 0, none⟩)] FPTT)).grownBy w7 (Value.slice lv.a L.length lv.c).ownBlock → CallEnd w0 w s p L ⟨k, 0, A ++ zeroV f.ls, []⟩ (.returned (.int .i64 0)) (w7.setCell ⟨s, 4, none⟩ (.slice (some ⟨g, 0, none⟩) ((ds.map FrD.b).length + 1) cap))) := by
        intro w7 g cap ho hg
        rw [← HLVV.out] at hg
        have hB := b_alloc hb.out (.cells #[.pointer (some ⟨x, 0, none⟩)] FPTT)
        have hO2 := frOk_gx HO1.out (gx_below (b_alloc (Below.refl wr.heap.size wr) (.cells #[.pointer (some ⟨x, 0, none⟩)] FPTT)) (fun _ => False)) (fun e => e) (fun _ _ e => e)
        obtain ⟨r1, r2⟩ := more_done (d := ⟨x, v2, ⟨none, 0, 0⟩⟩) H.out hB (frOk_mono hO2 HB0.out) hxw.out (fun q hq => (frOk_low hO2 q hq).1) ho hg
        exact ⟨rfl, ⟨_, _, r1⟩, r2⟩
      clear hO1 h1 hrow ej c3 d1
      go_wp2_with (at_builtin; refine append1 (c := ptrE) ptrT (by rfl) _ _ (by rfl) (by rfl) (v := .slice lv.a L.length lv.c) (L := ds.map FrD.b) (B := w0.heap.size) (ownR_alloc HROW.out _) x _ 1 (by rfl) (blk_new3 rfl) ?c1 ?c2 ?c3 ?_; (case c1 => (have := hdl.out; omega)); (case c2 => (unfold maxLen; have := hdl.out; omega)); (case c3 => (simp; have := hb.out.size; have := HB0.out; omega)); intro g cap w7 ho7 hg7 hor7 hl7; obtain ⟨z3, zf⟩ := PQ.out w7 hg7; have D7 := Lib.hid (PR.out w7 g cap ho7 hg7); clear ho7 hg7 hor7)
      go_ret
      have D8 := D7.out
      rw [List.length_map] at D8
      exact D8
end Go.Proofs.Ytdmidnmciaediaa
