/- Layer 34: the document's fits. Conditions: the words read as strings, the program reads. -/
import Derived.Test.YtedmjlhgpdeafaaDoorQAsmG
import Derived.Test.YtedmjlhgpdeafaaDoorQAsmU
import Derived.Test.YtedmjlhgpdeafaaDoorQHeldE
import Derived.Test.YtedmjlhgpdeafaaDoorQPlain25
namespace Go.Proofs.YtedmjlhgpdeafaaDoor
open Go.RowKit
set_option linter.unusedVariables false
set_option linter.unusedSimpArgs false
attribute [local go_sem] over_cell over_frozen
theorem blk_new3 {w : World} {c : Array Value} {T : TypeId} {k : Nat} (hk : k = w.heap.size) : Blk (w.alloc (.cells c T)) k c.toList := by rw [hk]; exact blk_new w c T
theorem wpAnyE_named {P : Program} {ops : Array Oper} {Q : Exit → Act → World → Prop} {md : Region.Mode} {S : World → Prop} {T : Nat} {fuel : Nat} {listed : Array Bool} {a : Act} {w : World} (h : ∀ w1, w1 = w → wpAnyE P md ops Q S T fuel listed a w1) : wpAnyE P md ops Q S T fuel listed a w := h w rfl
/-- A program that reads whatever blocks of X turn. -/
structure KeepP (X : Nat → Prop) (w : World) (v : PrV) (p : PrM) : Prop where
  u : v.u = p.u
  g : ∀ w', GrowX w w' X → ReadI w' v.g.v p.gl
  m : v.m = p.m
  f : ∃ L, ∀ w', GrowX w w' X → ReadR fnE w' v.f.v L ∧ AllF w' L p.fs
theorem keepP_gx {X : Nat → Prop} {w w' : World} {v : PrV} {p : PrM} (h : KeepP X w v p) (hg : GrowX w w' X) : KeepP X w' v p := by
  obtain ⟨L, hL⟩ := h.f
  exact ⟨h.u, fun w2 h2 => h.g w2 (gx_trans hg h2 (fun _ _ q => q) (fun _ _ q => q)), h.m, L, fun w2 h2 => hL w2 (gx_trans hg h2 (fun _ _ q => q) (fun _ _ q => q))⟩
theorem keepP_below {X : Nat → Prop} {w w' : World} {v : PrV} {p : PrM} (h : KeepP X w v p) (hb : Below w.heap.size w w') : KeepP X w' v p := keepP_gx h (gx_below hb X)
theorem keepP_read {X : Nat → Prop} {w : World} {v : PrV} {p : PrM} (h : KeepP X w v p) : ReadP w v p := by
  obtain ⟨L, hL⟩ := h.f
  exact ⟨h.u, h.g w (gx_refl _ _), h.m, L, hL w (gx_refl _ _)⟩
/-- fits's memory: its program at the first block behind w0's, its result at the next one. -/
structure FtAt (w0 w : World) (u : Bool) (g : Sl) (m : Int) (s : Sl) : Prop where
  p : Blk w w0.heap.size [.bool u, g.v, .int .i64 m, s.v]
  r : Blk w (w0.heap.size + 1) [.bool false, .slice none 0 0, .int .i64 0, .slice none 0 0]
  be : Below w0.heap.size w0 w
variable {w0 w w' : World} {u : Bool} {g s : Sl} {m : Int}
theorem ft_below (h : FtAt w0 w u g m s) (hb : Below w.heap.size w w') : FtAt w0 w' u g m s := ⟨blk_below h.p hb, blk_below h.r hb, b_call h.be hb⟩
theorem ft_start (w0 : World) (c1 c2 : Array Value) (T1 T2 : TypeId) (h1 : c1.toList = [.bool u, g.v, .int .i64 m, s.v]) (h2 : c2.toList = [.bool false, .slice none 0 0, .int .i64 0, .slice none 0 0]) : FtAt w0 ((w0.alloc (.cells c1 T1)).alloc (.cells c2 T2)) u g m s := by
  refine ⟨by rw [← h1]; exact blk_alloc (blk_new _ _ _) _, ?_, b_alloc (b_alloc (Below.refl _ _) _) _⟩
  have z := blk_new (w0.alloc (.cells c1 T1)) c2 T2
  rw [World.size_alloc, h2] at z
  exact z
/-- One cell of the program turns. -/
theorem ft_set (h : FtAt w0 w u g m s) (i : Nat) (v : Value) {u' : Bool} {g' s' : Sl} {m' : Int} (hs : ([.bool u, g.v, .int .i64 m, s.v] : List Value).set i v = [.bool u', g'.v, .int .i64 m', s'.v]) : FtAt w0 (w.setCell ⟨w0.heap.size, i, none⟩ v) u' g' m' s' ∧ GrowX w (w.setCell ⟨w0.heap.size, i, none⟩ v) (fun j => j < w0.heap.size + 2) :=
  ⟨⟨by rw [← hs]; exact blk_set h.p i v, blk_other h.r (by show w0.heap.size ≠ w0.heap.size + 1; omega) _, b_set h.be (Nat.le_refl _) _⟩, gx_set (gx_refl _ _) (Or.inr (by show w0.heap.size < _; omega)) _⟩
/-- What fits answers. -/
def FitEnd34 (X : Nat → Prop) (o : Option (PrM × Nat)) (w : World) (e : Ending) (w' : World) : Prop :=
  ∃ (q : PrV) (k : Int), e = .returned (.tuple #[aggP q, .int .i64 k]) ∧ Below w.heap.size w w' ∧ (o = none → k = -1) ∧ ∀ P' j, o = some (P', j) → k = (j : Int) ∧ KeepP X w' q P'
/-- The end: the program is laid into the result. -/
def ftFin (w : World) (rb : Nat) (u : Bool) (g : Sl) (m : Int) (s : Sl) : World := (((w.setCell ⟨rb, 0, none⟩ (.bool u)).setCell ⟨rb, 1, none⟩ g.v).setCell ⟨rb, 2, none⟩ (.int .i64 m)).setCell ⟨rb, 3, none⟩ s.v
theorem ft_fin (h : FtAt w0 w u g m s) : Blk (ftFin w (w0.heap.size + 1) u g m s) (w0.heap.size + 1) [.bool u, g.v, .int .i64 m, s.v] ∧ Below w0.heap.size w0 (ftFin w (w0.heap.size + 1) u g m s) ∧ GrowX w (ftFin w (w0.heap.size + 1) u g m s) (fun j => j < w0.heap.size + 2) :=
  ⟨blk_set (blk_set (blk_set (blk_set h.r 0 _) 1 _) 2 _) 3 _, b_set (b_set (b_set (b_set h.be (Nat.le_succ _) _) (Nat.le_succ _) _) (Nat.le_succ _) _) (Nat.le_succ _) _,
   gx_set (gx_set (gx_set (gx_set (gx_refl _ _) (Or.inr (Nat.lt_succ_self _)) _) (Or.inr (Nat.lt_succ_self _)) _) (Or.inr (Nat.lt_succ_self _)) _) (Or.inr (Nat.lt_succ_self _)) _⟩
theorem ownI_gx {X : Nat → Prop} {B : Nat} {v : Value} {xs : List Int} (h : OwnI w B v xs) (hg : GrowX w w' X) (hx : ∀ k, B ≤ k → ¬ X k) : OwnI w' B v xs := by
  refine ⟨h.1, ?_⟩
  rcases h.2 with hn | ⟨g, cap, cur, rfl, hb, hgg, rest⟩
  · exact .inl hn
  · exact .inr ⟨g, cap, cur, rfl, hb, by rw [hg.block g (Array.getElem?_eq_some_iff.1 hgg).1 (hx g hb)]; exact hgg, rest⟩
/-- What fits is handed. -/
structure FtIn (X : Nat → Prop) (w : World) (p : PrV) (P : PrM) (b o n cap : Nat) (a : List UInt8) : Prop where
  rd : KeepP X w p P
  xx : ∀ j, X j → j < w.heap.size
  n1 : 1 ≤ n
  nc : n ≤ cap
  cm : (cap : Int) ≤ 9223372036854775807
  hb : b < w.heap.size
  c0 : w.cell? ⟨b, o, none⟩ = some (.string ⟨a.toArray⟩)
set_option maxRecDepth 100000 in
set_option maxHeartbeats 2000000 in
theorem fit_unch {X : Nat → Prop} {w : World} {p : PrV} {P : PrM} {b o n cap : Nat} {a : List UInt8} (h : FtIn X w p P b o n cap a) (hn : ((n : Int) == 1) = true) (ha : (a == [117, 110, 99, 104, 101, 99, 107, 101, 100]) = true) : Calls Tryd.prog 49 #[aggP p, .slice (some ⟨b, o, none⟩) n cap, .int .i64 0] w (FitEnd34 X (some ({ P with u := true }, 1)) w) := by
  obtain ⟨pu, ⟨ga, gn, gc⟩, pm, ⟨fa, fn, fc⟩⟩ := p
  have hn1 := h.n1
  have hnc := h.nc
  have hcm := h.cm
  have hb := h.hb
  have hc0 := h.c0
  have HRD := Lib.hid h.rd
  have HX := Lib.hid h.xx
  have HCC := Lib.hid (fun (w' : World) (hw : Below w.heap.size w w') => ((And.intro (((bcell hw).1 b _ hb).trans hc0) (Nat.lt_of_lt_of_le hb hw.size)) : w'.cell? ⟨b, o, none⟩ = some (.string ⟨a.toArray⟩) ∧ b < w'.heap.size))
  clear h
  have hn0 : (0 : Int) < n := by omega
  unfold aggP Sl.v
  simp only
  go_enter Tryd.func49, Tryd.ntmps49
  go_upto_region 1 with fail
  refine wp_named ?_
  intro W1 hW1
  have HA : Hid (FtAt w W1 pu ⟨ga, gn, gc⟩ pm ⟨fa, fn, fc⟩) := Lib.hid (by rw [hW1]; exact ft_start w _ _ _ _ rfl rfl)
  clear hW1
  obtain ⟨c0, bz⟩ := HCC.out _ HA.out.be
  obtain ⟨p0, p1, p2, p3, pf⟩ := blk4 HA.out.p
  simp only [Sl.v] at p1 p3
  have pz := HA.out.p.1
  obtain ⟨r0, r1, r2, r3, rf⟩ := blk4 HA.out.r
  have rz := HA.out.r.1
  go_upto_region 3 with fail
  refine wp_named ?_
  intro W2 hW2
  have HA2 : Hid (FtAt w W2 true ⟨ga, gn, gc⟩ pm ⟨fa, fn, fc⟩) := Lib.hid (by rw [hW2]; exact (ft_set HA.out 0 _ rfl).1)
  clear p0 p1 p2 p3 pf pz r0 r1 r2 r3 rf rz
  clear hW2 c0 bz HA
  have HA := HA2
  obtain ⟨p0, p1, p2, p3, pf⟩ := blk4 HA.out.p
  simp only [Sl.v] at p1 p3
  have pz := HA.out.p.1
  obtain ⟨r0, r1, r2, r3, rf⟩ := blk4 HA.out.r
  have rz := HA.out.r.1
  go_wp2_with fail
  refine post_named ?_
  intro wF hwF
  have BF := Lib.hid (ft_fin HA.out)
  have HWF : Hid (wF = ftFin _ (w.heap.size + 1) true ⟨ga, gn, gc⟩ pm ⟨fa, fn, fc⟩) := Lib.hid hwF
  rw [← HWF.out] at BF
  clear hwF
  obtain ⟨q0, q1, q2, q3, _⟩ := blk4 BF.out.1
  refine bodyPost_ret (v := .tuple #[.agg #[.bool true, .slice ga gn gc, .int .i64 pm, .slice fa fn fc], .int .i64 (1)]) (by simp [results, Tryd.results49, go_sem, q0, q1, q2, q3, Sl.v]) rfl ⟨⟨true, ⟨ga, gn, gc⟩, pm, ⟨fa, fn, fc⟩⟩, 1, rfl, BF.out.2.1, ?_⟩
  refine ⟨(fun q => by cases q), fun P' j q => ?_⟩
  injection q with q
  injection q with e1 e2
  subst e1 e2
  exact ⟨rfl, rfl, (keepP_below HRD.out BF.out.2.1).g, HRD.out.m, (keepP_below HRD.out BF.out.2.1).f⟩
set_option maxRecDepth 100000 in
set_option maxHeartbeats 2000000 in
theorem fit_g_no0 {X : Nat → Prop} {w : World} {p : PrV} {P : PrM} {b o n cap : Nat} {a : List UInt8} (h : FtIn X w p P b o n cap a) (h1 : ((n : Int) == 1) = false ∨ (a == [117, 110, 99, 104, 101, 99, 107, 101, 100]) = false) (h2 : ((n : Int) != 2) = true ∨ (a == [103, 108, 111, 98, 97, 108, 115]) = false) : Calls Tryd.prog 49 #[aggP p, .slice (some ⟨b, o, none⟩) n cap, .int .i64 0] w (FitEnd34 X (none) w) := by
  obtain ⟨pu, ⟨ga, gn, gc⟩, pm, ⟨fa, fn, fc⟩⟩ := p
  have hn1 := h.n1
  have hnc := h.nc
  have hcm := h.cm
  have hb := h.hb
  have hc0 := h.c0
  have HRD := Lib.hid h.rd
  have HX := Lib.hid h.xx
  have HCC := Lib.hid (fun (w' : World) (hw : Below w.heap.size w w') => ((And.intro (((bcell hw).1 b _ hb).trans hc0) (Nat.lt_of_lt_of_le hb hw.size)) : w'.cell? ⟨b, o, none⟩ = some (.string ⟨a.toArray⟩) ∧ b < w'.heap.size))
  clear h
  have hn0 : (0 : Int) < n := by omega
  unfold aggP Sl.v
  simp only
  go_enter Tryd.func49, Tryd.ntmps49
  go_upto_region 1 with fail
  refine wp_named ?_
  intro W1 hW1
  have HA : Hid (FtAt w W1 pu ⟨ga, gn, gc⟩ pm ⟨fa, fn, fc⟩) := Lib.hid (by rw [hW1]; exact ft_start w _ _ _ _ rfl rfl)
  clear hW1
  obtain ⟨c0, bz⟩ := HCC.out _ HA.out.be
  obtain ⟨p0, p1, p2, p3, pf⟩ := blk4 HA.out.p
  simp only [Sl.v] at p1 p3
  have pz := HA.out.p.1
  obtain ⟨r0, r1, r2, r3, rf⟩ := blk4 HA.out.r
  have rz := HA.out.r.1
  rcases h1 with h1 | h1 <;> rcases h2 with h2 | h2
  all_goals
    go_wp2_with fail
  all_goals
    refine post_named ?_
    intro wF hwF
    have BF := Lib.hid (ft_fin HA.out)
    have HWF : Hid (wF = ftFin _ (w.heap.size + 1) pu ⟨ga, gn, gc⟩ pm ⟨fa, fn, fc⟩) := Lib.hid hwF
    rw [← HWF.out] at BF
    clear hwF
    obtain ⟨q0, q1, q2, q3, _⟩ := blk4 BF.out.1
    refine bodyPost_ret (v := .tuple #[.agg #[.bool pu, .slice ga gn gc, .int .i64 pm, .slice fa fn fc], .int .i64 (-1)]) (by simp [results, Tryd.results49, go_sem, q0, q1, q2, q3, Sl.v]) rfl ⟨⟨pu, ⟨ga, gn, gc⟩, pm, ⟨fa, fn, fc⟩⟩, -1, rfl, BF.out.2.1, ?_⟩
    exact ⟨(fun _ => rfl), fun P' j q => by cases q⟩
set_option maxRecDepth 100000 in
set_option maxHeartbeats 2000000 in
theorem fit_g0 {X : Nat → Prop} {w : World} {p : PrV} {P : PrM} {b o n cap : Nat} {a : List UInt8} (h : FtIn X w p P b o n cap a) (h1 : ((n : Int) == 1) = false) {x : List UInt8} (hn : ((n : Int) != 2) = false) (ha : (a == [103, 108, 111, 98, 97, 108, 115]) = true) (hc1 : w.cell? ⟨b, o + 1, none⟩ = some (.string ⟨x.toArray⟩)) (hx : x.length ≤ 1000000) : Calls Tryd.prog 49 #[aggP p, .slice (some ⟨b, o, none⟩) n cap, .int .i64 0] w (FitEnd34 X ((listL x).bind fun l => some ({ P with gl := l }, 2)) w) := by
  obtain ⟨pu, ⟨ga, gn, gc⟩, pm, ⟨fa, fn, fc⟩⟩ := p
  have hn1 := h.n1
  have hnc := h.nc
  have hcm := h.cm
  have hb := h.hb
  have hc0 := h.c0
  have HRD := Lib.hid h.rd
  have HX := Lib.hid h.xx
  have HCC := Lib.hid (fun (w' : World) (hw : Below w.heap.size w w') => ((And.intro (((bcell hw).1 b _ hb).trans hc0) (And.intro (((bcell hw).1 b _ hb).trans hc1) (Nat.lt_of_lt_of_le hb hw.size))) : w'.cell? ⟨b, o, none⟩ = some (.string ⟨a.toArray⟩) ∧ w'.cell? ⟨b, o + 1, none⟩ = some (.string ⟨x.toArray⟩) ∧ b < w'.heap.size))
  clear h
  have hn0 : (0 : Int) < n := by omega
  have hn2 : 1 < n := by have : (n : Int) = 2 := by simpa using hn
                         omega
  unfold aggP Sl.v
  simp only
  go_enter Tryd.func49, Tryd.ntmps49
  go_upto_region 1 with fail
  refine wp_named ?_
  intro W1 hW1
  have HA : Hid (FtAt w W1 pu ⟨ga, gn, gc⟩ pm ⟨fa, fn, fc⟩) := Lib.hid (by rw [hW1]; exact ft_start w _ _ _ _ rfl rfl)
  clear hW1
  obtain ⟨c0, c1, bz⟩ := HCC.out _ HA.out.be
  obtain ⟨p0, p1, p2, p3, pf⟩ := blk4 HA.out.p
  simp only [Sl.v] at p1 p3
  have pz := HA.out.p.1
  obtain ⟨r0, r1, r2, r3, rf⟩ := blk4 HA.out.r
  have rz := HA.out.r.1
  have HL := Lib.hid (fun w => rlist34_any x w hx)
  unfold strV at HL
  go_wp2_with fail
  refine (HL.out _).mono ?_
  rintro e w2 ⟨⟨va, vn, vc, rfl, hv⟩, hb2⟩
  clear p0 p1 p2 p3 pf pz r0 r1 r2 r3 rf rz
  have HA2 := Lib.hid (ft_below HA.out hb2)
  have HV := Lib.hid hv
  have HSZ : Hid (w.heap.size + 2 ≤ W1.heap.size) := Lib.hid (by have := HA.out.r.1; omega)
  clear hv hb2 HA c0 c1 bz
  have HA := HA2
  clear HA2
  obtain ⟨p0, p1, p2, p3, pf⟩ := blk4 HA.out.p
  simp only [Sl.v] at p1 p3
  have pz := HA.out.p.1
  obtain ⟨r0, r1, r2, r3, rf⟩ := blk4 HA.out.r
  have rz := HA.out.r.1
  cases hl : listL x with
  | none =>
    go_wp2_with fail
    refine post_named ?_
    intro wF hwF
    have BF := Lib.hid (ft_fin HA.out)
    have HWF : Hid (wF = ftFin _ (w.heap.size + 1) pu ⟨ga, gn, gc⟩ pm ⟨fa, fn, fc⟩) := Lib.hid hwF
    rw [← HWF.out] at BF
    clear hwF
    obtain ⟨q0, q1, q2, q3, _⟩ := blk4 BF.out.1
    refine bodyPost_ret (v := .tuple #[.agg #[.bool pu, .slice ga gn gc, .int .i64 pm, .slice fa fn fc], .int .i64 (-1)]) (by simp [results, Tryd.results49, go_sem, q0, q1, q2, q3, Sl.v]) rfl ⟨⟨pu, ⟨ga, gn, gc⟩, pm, ⟨fa, fn, fc⟩⟩, -1, rfl, BF.out.2.1, ?_⟩
    exact ⟨(fun _ => rfl), fun P' j q => by rw [hl] at q; cases q⟩
  | some ks =>
    have HO := Lib.hid (HV.out ks hl)
    go_upto_region 11 with fail
    refine wp_named ?_
    intro W3 hW3
    have HS3 : Hid (FtAt w W3 pu ⟨va, vn, vc⟩ pm ⟨fa, fn, fc⟩ ∧ GrowX w2 W3 (fun j => j < w.heap.size + 2)) := Lib.hid (by rw [hW3]; exact ft_set HA.out 1 _ rfl)
    clear hW3 p0 p1 p2 p3 pf pz r0 r1 r2 r3 rf rz HA
    have HA : Hid (FtAt w W3 pu ⟨va, vn, vc⟩ pm ⟨fa, fn, fc⟩) := Lib.hid HS3.out.1
    obtain ⟨p0, p1, p2, p3, pf⟩ := blk4 HA.out.p
    simp only [Sl.v] at p1 p3
    have pz := HA.out.p.1
    obtain ⟨r0, r1, r2, r3, rf⟩ := blk4 HA.out.r
    have rz := HA.out.r.1
    go_wp2_with fail
    refine post_named ?_
    intro wF hwF
    have BF := Lib.hid (ft_fin HA.out)
    have HWF : Hid (wF = ftFin _ (w.heap.size + 1) pu ⟨va, vn, vc⟩ pm ⟨fa, fn, fc⟩) := Lib.hid hwF
    rw [← HWF.out] at BF
    clear hwF
    obtain ⟨q0, q1, q2, q3, _⟩ := blk4 BF.out.1
    refine bodyPost_ret (v := .tuple #[.agg #[.bool pu, .slice va vn vc, .int .i64 pm, .slice fa fn fc], .int .i64 (2)]) (by simp [results, Tryd.results49, go_sem, q0, q1, q2, q3, Sl.v]) rfl ⟨⟨pu, ⟨va, vn, vc⟩, pm, ⟨fa, fn, fc⟩⟩, 2, rfl, BF.out.2.1, ?_⟩
    refine ⟨(fun q => by rw [hl] at q; cases q), fun P' j q => ?_⟩
    rw [hl] at q
    injection q with q
    injection q with e1 e2
    subst e1 e2
    have hx' : ∀ k, W1.heap.size ≤ k → ¬ (k < w.heap.size + 2) := fun k hk hk2 => by have := HSZ.out; omega
    exact ⟨rfl, HRD.out.u, (fun w'' hg => ownI_read (ownI_gx (ownI_gx (ownI_gx HO.out HS3.out.2 hx') BF.out.2.2 hx') hg (fun k hk q => by have := HX.out k q; have := HSZ.out; omega))), HRD.out.m, (keepP_below HRD.out BF.out.2.1).f⟩
set_option maxRecDepth 100000 in
set_option maxHeartbeats 2000000 in
theorem fit_g_no1 {X : Nat → Prop} {w : World} {p : PrV} {P : PrM} {b o n cap : Nat} {a : List UInt8} (h : FtIn X w p P b o n cap a) (h2 : ((n : Int) != 2) = true ∨ (a == [103, 108, 111, 98, 97, 108, 115]) = false) : Calls Tryd.prog 49 #[aggP p, .slice (some ⟨b, o, none⟩) n cap, .int .i64 1] w (FitEnd34 X (none) w) := by
  obtain ⟨pu, ⟨ga, gn, gc⟩, pm, ⟨fa, fn, fc⟩⟩ := p
  have hn1 := h.n1
  have hnc := h.nc
  have hcm := h.cm
  have hb := h.hb
  have hc0 := h.c0
  have HRD := Lib.hid h.rd
  have HX := Lib.hid h.xx
  have HCC := Lib.hid (fun (w' : World) (hw : Below w.heap.size w w') => ((And.intro (((bcell hw).1 b _ hb).trans hc0) (Nat.lt_of_lt_of_le hb hw.size)) : w'.cell? ⟨b, o, none⟩ = some (.string ⟨a.toArray⟩) ∧ b < w'.heap.size))
  clear h
  have hn0 : (0 : Int) < n := by omega
  unfold aggP Sl.v
  simp only
  go_enter Tryd.func49, Tryd.ntmps49
  go_upto_region 1 with fail
  refine wp_named ?_
  intro W1 hW1
  have HA : Hid (FtAt w W1 pu ⟨ga, gn, gc⟩ pm ⟨fa, fn, fc⟩) := Lib.hid (by rw [hW1]; exact ft_start w _ _ _ _ rfl rfl)
  clear hW1
  obtain ⟨c0, bz⟩ := HCC.out _ HA.out.be
  obtain ⟨p0, p1, p2, p3, pf⟩ := blk4 HA.out.p
  simp only [Sl.v] at p1 p3
  have pz := HA.out.p.1
  obtain ⟨r0, r1, r2, r3, rf⟩ := blk4 HA.out.r
  have rz := HA.out.r.1
  rcases h2 with h2 | h2
  all_goals
    go_wp2_with fail
  all_goals
    refine post_named ?_
    intro wF hwF
    have BF := Lib.hid (ft_fin HA.out)
    have HWF : Hid (wF = ftFin _ (w.heap.size + 1) pu ⟨ga, gn, gc⟩ pm ⟨fa, fn, fc⟩) := Lib.hid hwF
    rw [← HWF.out] at BF
    clear hwF
    obtain ⟨q0, q1, q2, q3, _⟩ := blk4 BF.out.1
    refine bodyPost_ret (v := .tuple #[.agg #[.bool pu, .slice ga gn gc, .int .i64 pm, .slice fa fn fc], .int .i64 (-1)]) (by simp [results, Tryd.results49, go_sem, q0, q1, q2, q3, Sl.v]) rfl ⟨⟨pu, ⟨ga, gn, gc⟩, pm, ⟨fa, fn, fc⟩⟩, -1, rfl, BF.out.2.1, ?_⟩
    exact ⟨(fun _ => rfl), fun P' j q => by cases q⟩
set_option maxRecDepth 100000 in
set_option maxHeartbeats 2000000 in
theorem fit_g1 {X : Nat → Prop} {w : World} {p : PrV} {P : PrM} {b o n cap : Nat} {a : List UInt8} (h : FtIn X w p P b o n cap a) {x : List UInt8} (hn : ((n : Int) != 2) = false) (ha : (a == [103, 108, 111, 98, 97, 108, 115]) = true) (hc1 : w.cell? ⟨b, o + 1, none⟩ = some (.string ⟨x.toArray⟩)) (hx : x.length ≤ 1000000) : Calls Tryd.prog 49 #[aggP p, .slice (some ⟨b, o, none⟩) n cap, .int .i64 1] w (FitEnd34 X ((listL x).bind fun l => some ({ P with gl := l }, 2)) w) := by
  obtain ⟨pu, ⟨ga, gn, gc⟩, pm, ⟨fa, fn, fc⟩⟩ := p
  have hn1 := h.n1
  have hnc := h.nc
  have hcm := h.cm
  have hb := h.hb
  have hc0 := h.c0
  have HRD := Lib.hid h.rd
  have HX := Lib.hid h.xx
  have HCC := Lib.hid (fun (w' : World) (hw : Below w.heap.size w w') => ((And.intro (((bcell hw).1 b _ hb).trans hc0) (And.intro (((bcell hw).1 b _ hb).trans hc1) (Nat.lt_of_lt_of_le hb hw.size))) : w'.cell? ⟨b, o, none⟩ = some (.string ⟨a.toArray⟩) ∧ w'.cell? ⟨b, o + 1, none⟩ = some (.string ⟨x.toArray⟩) ∧ b < w'.heap.size))
  clear h
  have hn0 : (0 : Int) < n := by omega
  have hn2 : 1 < n := by have : (n : Int) = 2 := by simpa using hn
                         omega
  unfold aggP Sl.v
  simp only
  go_enter Tryd.func49, Tryd.ntmps49
  go_upto_region 1 with fail
  refine wp_named ?_
  intro W1 hW1
  have HA : Hid (FtAt w W1 pu ⟨ga, gn, gc⟩ pm ⟨fa, fn, fc⟩) := Lib.hid (by rw [hW1]; exact ft_start w _ _ _ _ rfl rfl)
  clear hW1
  obtain ⟨c0, c1, bz⟩ := HCC.out _ HA.out.be
  obtain ⟨p0, p1, p2, p3, pf⟩ := blk4 HA.out.p
  simp only [Sl.v] at p1 p3
  have pz := HA.out.p.1
  obtain ⟨r0, r1, r2, r3, rf⟩ := blk4 HA.out.r
  have rz := HA.out.r.1
  have HL := Lib.hid (fun w => rlist34_any x w hx)
  unfold strV at HL
  go_wp2_with fail
  refine (HL.out _).mono ?_
  rintro e w2 ⟨⟨va, vn, vc, rfl, hv⟩, hb2⟩
  clear p0 p1 p2 p3 pf pz r0 r1 r2 r3 rf rz
  have HA2 := Lib.hid (ft_below HA.out hb2)
  have HV := Lib.hid hv
  have HSZ : Hid (w.heap.size + 2 ≤ W1.heap.size) := Lib.hid (by have := HA.out.r.1; omega)
  clear hv hb2 HA c0 c1 bz
  have HA := HA2
  clear HA2
  obtain ⟨p0, p1, p2, p3, pf⟩ := blk4 HA.out.p
  simp only [Sl.v] at p1 p3
  have pz := HA.out.p.1
  obtain ⟨r0, r1, r2, r3, rf⟩ := blk4 HA.out.r
  have rz := HA.out.r.1
  cases hl : listL x with
  | none =>
    go_wp2_with fail
    refine post_named ?_
    intro wF hwF
    have BF := Lib.hid (ft_fin HA.out)
    have HWF : Hid (wF = ftFin _ (w.heap.size + 1) pu ⟨ga, gn, gc⟩ pm ⟨fa, fn, fc⟩) := Lib.hid hwF
    rw [← HWF.out] at BF
    clear hwF
    obtain ⟨q0, q1, q2, q3, _⟩ := blk4 BF.out.1
    refine bodyPost_ret (v := .tuple #[.agg #[.bool pu, .slice ga gn gc, .int .i64 pm, .slice fa fn fc], .int .i64 (-1)]) (by simp [results, Tryd.results49, go_sem, q0, q1, q2, q3, Sl.v]) rfl ⟨⟨pu, ⟨ga, gn, gc⟩, pm, ⟨fa, fn, fc⟩⟩, -1, rfl, BF.out.2.1, ?_⟩
    exact ⟨(fun _ => rfl), fun P' j q => by rw [hl] at q; cases q⟩
  | some ks =>
    have HO := Lib.hid (HV.out ks hl)
    go_upto_region 11 with fail
    refine wp_named ?_
    intro W3 hW3
    have HS3 : Hid (FtAt w W3 pu ⟨va, vn, vc⟩ pm ⟨fa, fn, fc⟩ ∧ GrowX w2 W3 (fun j => j < w.heap.size + 2)) := Lib.hid (by rw [hW3]; exact ft_set HA.out 1 _ rfl)
    clear hW3 p0 p1 p2 p3 pf pz r0 r1 r2 r3 rf rz HA
    have HA : Hid (FtAt w W3 pu ⟨va, vn, vc⟩ pm ⟨fa, fn, fc⟩) := Lib.hid HS3.out.1
    obtain ⟨p0, p1, p2, p3, pf⟩ := blk4 HA.out.p
    simp only [Sl.v] at p1 p3
    have pz := HA.out.p.1
    obtain ⟨r0, r1, r2, r3, rf⟩ := blk4 HA.out.r
    have rz := HA.out.r.1
    go_wp2_with fail
    refine post_named ?_
    intro wF hwF
    have BF := Lib.hid (ft_fin HA.out)
    have HWF : Hid (wF = ftFin _ (w.heap.size + 1) pu ⟨va, vn, vc⟩ pm ⟨fa, fn, fc⟩) := Lib.hid hwF
    rw [← HWF.out] at BF
    clear hwF
    obtain ⟨q0, q1, q2, q3, _⟩ := blk4 BF.out.1
    refine bodyPost_ret (v := .tuple #[.agg #[.bool pu, .slice va vn vc, .int .i64 pm, .slice fa fn fc], .int .i64 (2)]) (by simp [results, Tryd.results49, go_sem, q0, q1, q2, q3, Sl.v]) rfl ⟨⟨pu, ⟨va, vn, vc⟩, pm, ⟨fa, fn, fc⟩⟩, 2, rfl, BF.out.2.1, ?_⟩
    refine ⟨(fun q => by rw [hl] at q; cases q), fun P' j q => ?_⟩
    rw [hl] at q
    injection q with q
    injection q with e1 e2
    subst e1 e2
    have hx' : ∀ k, W1.heap.size ≤ k → ¬ (k < w.heap.size + 2) := fun k hk hk2 => by have := HSZ.out; omega
    exact ⟨rfl, HRD.out.u, (fun w'' hg => ownI_read (ownI_gx (ownI_gx (ownI_gx HO.out HS3.out.2 hx') BF.out.2.2 hx') hg (fun k hk q => by have := HX.out k q; have := HSZ.out; omega))), HRD.out.m, (keepP_below HRD.out BF.out.2.1).f⟩
set_option maxRecDepth 100000 in
set_option maxHeartbeats 2000000 in
theorem fit_m_no {X : Nat → Prop} {w : World} {p : PrV} {P : PrM} {b o n cap : Nat} {a : List UInt8} (h : FtIn X w p P b o n cap a) (h2 : ((n : Int) != 2) = true ∨ (a == [109, 117, 116, 101, 120, 101, 115]) = false) : Calls Tryd.prog 49 #[aggP p, .slice (some ⟨b, o, none⟩) n cap, .int .i64 2] w (FitEnd34 X (none) w) := by
  obtain ⟨pu, ⟨ga, gn, gc⟩, pm, ⟨fa, fn, fc⟩⟩ := p
  have hn1 := h.n1
  have hnc := h.nc
  have hcm := h.cm
  have hb := h.hb
  have hc0 := h.c0
  have HRD := Lib.hid h.rd
  have HX := Lib.hid h.xx
  have HCC := Lib.hid (fun (w' : World) (hw : Below w.heap.size w w') => ((And.intro (((bcell hw).1 b _ hb).trans hc0) (Nat.lt_of_lt_of_le hb hw.size)) : w'.cell? ⟨b, o, none⟩ = some (.string ⟨a.toArray⟩) ∧ b < w'.heap.size))
  clear h
  have hn0 : (0 : Int) < n := by omega
  unfold aggP Sl.v
  simp only
  go_enter Tryd.func49, Tryd.ntmps49
  go_upto_region 1 with fail
  refine wp_named ?_
  intro W1 hW1
  have HA : Hid (FtAt w W1 pu ⟨ga, gn, gc⟩ pm ⟨fa, fn, fc⟩) := Lib.hid (by rw [hW1]; exact ft_start w _ _ _ _ rfl rfl)
  clear hW1
  obtain ⟨c0, bz⟩ := HCC.out _ HA.out.be
  obtain ⟨p0, p1, p2, p3, pf⟩ := blk4 HA.out.p
  simp only [Sl.v] at p1 p3
  have pz := HA.out.p.1
  obtain ⟨r0, r1, r2, r3, rf⟩ := blk4 HA.out.r
  have rz := HA.out.r.1
  rcases h2 with h2 | h2
  all_goals
    go_wp2_with fail
  all_goals
    refine post_named ?_
    intro wF hwF
    have BF := Lib.hid (ft_fin HA.out)
    have HWF : Hid (wF = ftFin _ (w.heap.size + 1) pu ⟨ga, gn, gc⟩ pm ⟨fa, fn, fc⟩) := Lib.hid hwF
    rw [← HWF.out] at BF
    clear hwF
    obtain ⟨q0, q1, q2, q3, _⟩ := blk4 BF.out.1
    refine bodyPost_ret (v := .tuple #[.agg #[.bool pu, .slice ga gn gc, .int .i64 pm, .slice fa fn fc], .int .i64 (-1)]) (by simp [results, Tryd.results49, go_sem, q0, q1, q2, q3, Sl.v]) rfl ⟨⟨pu, ⟨ga, gn, gc⟩, pm, ⟨fa, fn, fc⟩⟩, -1, rfl, BF.out.2.1, ?_⟩
    exact ⟨(fun _ => rfl), fun P' j q => by cases q⟩
set_option maxRecDepth 100000 in
set_option maxHeartbeats 2000000 in
theorem fit_m {X : Nat → Prop} {w : World} {p : PrV} {P : PrM} {b o n cap : Nat} {a : List UInt8} (h : FtIn X w p P b o n cap a) {x : List UInt8} (hn : ((n : Int) != 2) = false) (ha : (a == [109, 117, 116, 101, 120, 101, 115]) = true) (hc1 : w.cell? ⟨b, o + 1, none⟩ = some (.string ⟨x.toArray⟩)) (hx : x.length ≤ 1000000) : Calls Tryd.prog 49 #[aggP p, .slice (some ⟨b, o, none⟩) n cap, .int .i64 2] w (FitEnd34 X ((valL x).bind fun m => some ({ P with m := (m : Int) }, 3)) w) := by
  obtain ⟨pu, ⟨ga, gn, gc⟩, pm, ⟨fa, fn, fc⟩⟩ := p
  have hn1 := h.n1
  have hnc := h.nc
  have hcm := h.cm
  have hb := h.hb
  have hc0 := h.c0
  have HRD := Lib.hid h.rd
  have HX := Lib.hid h.xx
  have HCC := Lib.hid (fun (w' : World) (hw : Below w.heap.size w w') => ((And.intro (((bcell hw).1 b _ hb).trans hc0) (And.intro (((bcell hw).1 b _ hb).trans hc1) (Nat.lt_of_lt_of_le hb hw.size))) : w'.cell? ⟨b, o, none⟩ = some (.string ⟨a.toArray⟩) ∧ w'.cell? ⟨b, o + 1, none⟩ = some (.string ⟨x.toArray⟩) ∧ b < w'.heap.size))
  clear h
  have hn0 : (0 : Int) < n := by omega
  have hn2 : 1 < n := by have : (n : Int) = 2 := by simpa using hn
                         omega
  unfold aggP Sl.v
  simp only
  go_enter Tryd.func49, Tryd.ntmps49
  go_upto_region 1 with fail
  refine wp_named ?_
  intro W1 hW1
  have HA : Hid (FtAt w W1 pu ⟨ga, gn, gc⟩ pm ⟨fa, fn, fc⟩) := Lib.hid (by rw [hW1]; exact ft_start w _ _ _ _ rfl rfl)
  clear hW1
  obtain ⟨c0, c1, bz⟩ := HCC.out _ HA.out.be
  obtain ⟨p0, p1, p2, p3, pf⟩ := blk4 HA.out.p
  simp only [Sl.v] at p1 p3
  have pz := HA.out.p.1
  obtain ⟨r0, r1, r2, r3, rf⟩ := blk4 HA.out.r
  have rz := HA.out.r.1
  cases hl : valL x with
  | none =>
    have HV : Hid (∀ w, Calls Tryd.prog 68 #[.string ⟨x.toArray⟩] w fun e w' => e = .returned (.int .i64 (-1)) ∧ Below w.heap.size w w') := Lib.hid (fun w => by have q := rval_any x w hx; rw [hl] at q; exact q)
    go_wp2_with fail
    refine (HV.out _).mono ?_
    rintro e w2 ⟨rfl, hb2⟩
    clear p0 p1 p2 p3 pf pz r0 r1 r2 r3 rf rz
    have HA2 := Lib.hid (ft_below HA.out hb2)
    clear hb2 HA c0 c1 bz
    have HA := HA2
    clear HA2
    obtain ⟨c0, c1, bz⟩ := HCC.out _ HA.out.be
    obtain ⟨p0, p1, p2, p3, pf⟩ := blk4 HA.out.p
    simp only [Sl.v] at p1 p3
    have pz := HA.out.p.1
    obtain ⟨r0, r1, r2, r3, rf⟩ := blk4 HA.out.r
    have rz := HA.out.r.1
    go_wp2_with fail
    refine post_named ?_
    intro wF hwF
    have BF := Lib.hid (ft_fin HA.out)
    have HWF : Hid (wF = ftFin _ (w.heap.size + 1) pu ⟨ga, gn, gc⟩ pm ⟨fa, fn, fc⟩) := Lib.hid hwF
    rw [← HWF.out] at BF
    clear hwF
    obtain ⟨q0, q1, q2, q3, _⟩ := blk4 BF.out.1
    refine bodyPost_ret (v := .tuple #[.agg #[.bool pu, .slice ga gn gc, .int .i64 pm, .slice fa fn fc], .int .i64 (-1)]) (by simp [results, Tryd.results49, go_sem, q0, q1, q2, q3, Sl.v]) rfl ⟨⟨pu, ⟨ga, gn, gc⟩, pm, ⟨fa, fn, fc⟩⟩, -1, rfl, BF.out.2.1, ?_⟩
    exact ⟨(fun _ => rfl), fun P' j q => by rw [hl] at q; cases q⟩
  | some mm =>
    have HV : Hid (∀ w, Calls Tryd.prog 68 #[.string ⟨x.toArray⟩] w fun e w' => e = .returned (.int .i64 (mm : Int)) ∧ Below w.heap.size w w') := Lib.hid (fun w => by have q := rval_any x w hx; rw [hl] at q; exact q)
    have hmm : (0 : Int) ≤ mm := by omega
    go_wp2_with fail
    refine (HV.out _).mono ?_
    rintro e w2 ⟨rfl, hb2⟩
    clear p0 p1 p2 p3 pf pz r0 r1 r2 r3 rf rz
    have HA2 := Lib.hid (ft_below HA.out hb2)
    clear hb2 HA c0 c1 bz
    have HA := HA2
    clear HA2
    obtain ⟨c0, c1, bz⟩ := HCC.out _ HA.out.be
    obtain ⟨p0, p1, p2, p3, pf⟩ := blk4 HA.out.p
    simp only [Sl.v] at p1 p3
    have pz := HA.out.p.1
    obtain ⟨r0, r1, r2, r3, rf⟩ := blk4 HA.out.r
    have rz := HA.out.r.1
    go_wp2_with fail
    refine (HV.out _).mono ?_
    rintro e w3 ⟨rfl, hb2⟩
    clear p0 p1 p2 p3 pf pz r0 r1 r2 r3 rf rz
    have HA2 := Lib.hid (ft_below HA.out hb2)
    clear hb2 HA c0 c1 bz
    have HA := HA2
    clear HA2
    obtain ⟨c0, c1, bz⟩ := HCC.out _ HA.out.be
    obtain ⟨p0, p1, p2, p3, pf⟩ := blk4 HA.out.p
    simp only [Sl.v] at p1 p3
    have pz := HA.out.p.1
    obtain ⟨r0, r1, r2, r3, rf⟩ := blk4 HA.out.r
    have rz := HA.out.r.1
    go_upto_region 16 with fail
    refine wp_named ?_
    intro W3 hW3
    have HA3 : Hid (FtAt w W3 pu ⟨ga, gn, gc⟩ (mm : Int) ⟨fa, fn, fc⟩) := Lib.hid (by rw [hW3]; exact (ft_set HA.out 2 _ rfl).1)
    clear hW3 p0 p1 p2 p3 pf pz r0 r1 r2 r3 rf rz HA c0 c1 bz
    have HA := HA3
    clear HA3
    obtain ⟨p0, p1, p2, p3, pf⟩ := blk4 HA.out.p
    simp only [Sl.v] at p1 p3
    have pz := HA.out.p.1
    obtain ⟨r0, r1, r2, r3, rf⟩ := blk4 HA.out.r
    have rz := HA.out.r.1
    go_wp2_with fail
    refine post_named ?_
    intro wF hwF
    have BF := Lib.hid (ft_fin HA.out)
    have HWF : Hid (wF = ftFin _ (w.heap.size + 1) pu ⟨ga, gn, gc⟩ (mm : Int) ⟨fa, fn, fc⟩) := Lib.hid hwF
    rw [← HWF.out] at BF
    clear hwF
    obtain ⟨q0, q1, q2, q3, _⟩ := blk4 BF.out.1
    refine bodyPost_ret (v := .tuple #[.agg #[.bool pu, .slice ga gn gc, .int .i64 (mm : Int), .slice fa fn fc], .int .i64 (3)]) (by simp [results, Tryd.results49, go_sem, q0, q1, q2, q3, Sl.v]) rfl ⟨⟨pu, ⟨ga, gn, gc⟩, (mm : Int), ⟨fa, fn, fc⟩⟩, 3, rfl, BF.out.2.1, ?_⟩
    refine ⟨(fun q => by rw [hl] at q; cases q), fun P' j q => ?_⟩
    rw [hl] at q
    injection q with q
    injection q with e1 e2
    subst e1 e2
    exact ⟨rfl, HRD.out.u, (keepP_below HRD.out BF.out.2.1).g, rfl, (keepP_below HRD.out BF.out.2.1).f⟩
end Go.Proofs.YtedmjlhgpdeafaaDoor
