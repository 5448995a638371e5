/- Layer 26: words for programs in memory; the document's named. Conditions: those stated. -/
import Derived.Test.YtdmidnmciaediaaZVer2
import Derived.Test.YtdmidnmciaediaaZCut
namespace Go.Proofs.Ytdmidnmciaediaa
open Go.RowKit
set_option linter.unusedVariables false
set_option linter.unusedSimpArgs false
attribute [local go_sem] over_cell over_frozen
theorem fn_at {w : World} {p : PrV} {P : PrM} (h : ReadP w p P) {k : Nat} (hk : k < P.fs.length) : ∃ b o, p.f.a = some ⟨b, o, none⟩ ∧ b < w.heap.size ∧ ∃ v : FnV, DeepF w v P.fs[k] ∧ w.cell? ⟨b, o + k * 4, none⟩ = some (.slice v.p.a v.p.n v.p.c) ∧ w.cell? ⟨b, o + k * 4 + 1, none⟩ = some (.slice v.l.a v.l.n v.l.c) ∧ w.cell? ⟨b, o + k * 4 + 2, none⟩ = some (.int .i64 P.fs[k].r) ∧ w.cell? ⟨b, o + k * 4 + 3, none⟩ = some (.slice v.c.a v.c.n v.c.c) := by
  obtain ⟨Lf, hr, hA⟩ := h.f
  have hlen := allF_len hA
  obtain ⟨b, o, cap, e, h1, h2, h3, h4⟩ := readR_pos hr (by omega)
  have e1 : p.f.a = some ⟨b, o, none⟩ := by
    have e2 : Value.slice p.f.a p.f.n p.f.c = .slice (some ⟨b, o, none⟩) Lf.length cap := e
    injection e2
  have hd := allF_at hA k (by omega) hk
  obtain ⟨c0, c1, c2, c3⟩ := fn_cells h4 k (by omega)
  exact ⟨b, o, e1, h3, Lf[k], hd, c0, c1, by rw [← hd.r]; exact c2, c3⟩
theorem fn_len {w : World} {p : PrV} {P : PrM} (h : ReadP w p P) : p.f.n = P.fs.length ∧ P.fs.length ≤ p.f.c ∧ p.f.c ≤ 9223372036854775807 := by
  obtain ⟨Lf, hr, hA⟩ := h.f
  have hlen := allF_len hA
  obtain ⟨a, cap, e, e2, e3⟩ := readR_len hr
  have e4 : Value.slice p.f.a p.f.n p.f.c = .slice a Lf.length cap := e
  injection e4 with _ e5 e6
  rw [e6, ← hlen]; exact ⟨e5, e2, cap_le e3⟩
theorem int_len {w : World} {s : Sl} {xs : List Int} (h : ReadI w s.v xs) : s.n = xs.length ∧ xs.length ≤ s.c ∧ s.c ≤ 9223372036854775807 := by
  obtain ⟨a, c, e, _, h1, h2⟩ := readI_row h
  have e4 : Value.slice s.a s.n s.c = .slice a xs.length c := e
  injection e4 with _ e5 e6
  rw [e6]; exact ⟨e5, h1, cap_le h2⟩
theorem int_at {w : World} {s : Sl} {xs : List Int} (h : ReadI w s.v xs) {k : Nat} (hk : k < xs.length) : ∃ b o, s.a = some ⟨b, o, none⟩ ∧ b < w.heap.size ∧ w.cell? ⟨b, o + k, none⟩ = some (.int .i64 (xs.getD k 0)) := by
  obtain ⟨b, o, c, e, _, _, h3, h4⟩ := readI_pos h (by omega)
  have e4 : Value.slice s.a s.n s.c = .slice (some ⟨b, o, none⟩) xs.length c := e
  injection e4 with e5
  exact ⟨b, o, e5, h3, h4 k hk⟩
theorem boxes2 (w : World) (c1 c2 : Array Value) (T1 T2 : TypeId) : Blk ((w.alloc (.cells c1 T1)).alloc (.cells c2 T2)) w.heap.size c1.toList ∧ Blk ((w.alloc (.cells c1 T1)).alloc (.cells c2 T2)) (w.heap.size + 1) c2.toList ∧ Below w.heap.size w ((w.alloc (.cells c1 T1)).alloc (.cells c2 T2)) := by
  refine ⟨blk_alloc (blk_new w c1 T1) _, ?_, b_alloc (b_alloc (Below.refl _ _) _) _⟩
  have q := blk_new (w.alloc (.cells c1 T1)) c2 T2
  rw [World.size_alloc] at q; exact q
theorem boxes3 (w : World) (c1 c2 c3 : Array Value) (T1 T2 T3 : TypeId) : Blk (((w.alloc (.cells c1 T1)).alloc (.cells c2 T2)).alloc (.cells c3 T3)) w.heap.size c1.toList ∧ Blk (((w.alloc (.cells c1 T1)).alloc (.cells c2 T2)).alloc (.cells c3 T3)) (w.heap.size + 1) c2.toList ∧ Blk (((w.alloc (.cells c1 T1)).alloc (.cells c2 T2)).alloc (.cells c3 T3)) (w.heap.size + 2) c3.toList ∧ Below w.heap.size w (((w.alloc (.cells c1 T1)).alloc (.cells c2 T2)).alloc (.cells c3 T3)) := by
  obtain ⟨q1, q2, q3⟩ := boxes2 w c1 c2 T1 T2
  refine ⟨blk_alloc q1 _, blk_alloc q2 _, ?_, b_alloc q3 _⟩
  have q := blk_new ((w.alloc (.cells c1 T1)).alloc (.cells c2 T2)) c3 T3
  rw [World.size_alloc, World.size_alloc] at q; exact q
theorem inFs_cases (P : PrM) {a : Int} (ha : 0 ≤ a) : (inFs P a = false ∧ (P.fs.length : Int) ≤ a) ∨ (∃ k : Nat, a = k ∧ ∃ h : k < P.fs.length, inFs P a = true ∧ fnAtM P a = P.fs[k]) := by
  rcases Int.lt_or_le a P.fs.length with q | q
  · refine Or.inr ⟨a.toNat, by omega, by omega, by unfold inFs; rw [decide_eq_true ha, decide_eq_true q]; rfl, ?_⟩
    unfold fnAtM
    rw [List.getD_eq_getElem?_getD, List.getElem?_eq_getElem (by omega)]; rfl
  · exact Or.inl ⟨by unfold inFs; rw [decide_eq_false (by omega : ¬ a < P.fs.length)]; simp, q⟩
set_option maxHeartbeats 1000000 in
theorem rnamed14 (p : PrV) (P : PrM) (x a b : Int) (w : World) (h : ReadP w p P) (hs : SmallP P) (ha : 0 ≤ a) : Calls Try.prog 106 #[aggP p, .agg #[.int .i64 14, .int .u64 x, .int .i64 a, .int .i64 b]] w (RetD w (ifNamed (inFs P a) ⟨(fnAtM P a).ps, [(fnAtM P a).r], 0⟩)) := by
  obtain ⟨n1, n2, n3⟩ := fn_len h
  have HR := Lib.hid h
  have HS := Lib.hid hs
  rcases inFs_cases P ha with ⟨hin, hge⟩ | ⟨k, rfl, hk, hin, hfn⟩
  · rw [hin]
    obtain ⟨u, ⟨ga, gn, gc⟩, m, ⟨fa, fn, fc⟩⟩ := p
    simp only at n1 n2 n3
    subst n1
    have hno : ¬ (a < P.fs.length) := by omega
    show Calls _ _ _ _ (RetD w (bad 5))
    unfold aggP Sl.v
    simp only
    clear h hs hin
    go_enter Try.func106, Try.ntmps106
    go_wp2_with fail
    go_ret3
    exact ⟨none, 0, none, 0, rfl, readI_nil _, readI_nil _, by (repeat' (first | exact Below.refl _ _ | assumption | refine b_alloc ?_ _ | refine b_over ?_ _ | refine b_drew ?_ | refine b_call ?_ (by assumption)))⟩
  · rw [hin, hfn]
    show Calls _ _ _ _ (RetD w ((⟨(P.fs[k]).ps, [(P.fs[k]).r], 0⟩ : Deal)))
    obtain ⟨bb, oo, ea, hlt, v, hd, d0, d1, d2, d3⟩ := fn_at h hk
    have HD := Lib.hid hd
    have hsm := (hs.a _ (List.getElem_mem hk)).p
    obtain ⟨u, ⟨ga, gn, gc⟩, m, ⟨fa, fn, fc⟩⟩ := p
    simp only at n1 n2 n3 ea
    subst n1 ea
    obtain ⟨⟨pa, pn, pc⟩, ⟨la, ln, lc⟩, r, ⟨ca, cn, cc⟩⟩ := v
    obtain ⟨e1, e2, e3⟩ := int_len hd.p
    have hdp := hd.p
    simp only at e1 e2 e3 d0 d1 d2 d3
    have k0 : (0 : Int) ≤ k := by omega
    have k1 : (k : Int) < P.fs.length := by omega
    have k2 : k < fc := by omega
    generalize P.fs[k] = f at *
    subst e1
    have HP := Lib.hid hdp
    unfold aggP Sl.v
    simp only
    clear h hs hin hfn hd
    clear hdp
    go_enter Try.func106, Try.ntmps106
    go_upto_region 5 with fail
    go_region
    all_goals
      go_wp2_with fail
      go_ret3
      exact ⟨pa, pc, _, _, rfl, readI_below HP.out (by (repeat' (first | exact Below.refl _ _ | assumption | refine b_alloc ?_ _ | refine b_over ?_ _ | refine b_drew ?_ | refine b_call ?_ (by assumption)))), readI_lit [f.r] (by simp) (by simp), by (repeat' (first | exact Below.refl _ _ | assumption | refine b_alloc ?_ _ | refine b_over ?_ _ | refine b_drew ?_ | refine b_call ?_ (by assumption)))⟩
set_option maxHeartbeats 1000000 in
theorem rnamed28 (p : PrV) (P : PrM) (x a b : Int) (w : World) (h : ReadP w p P) (hs : SmallP P) (ha : 0 ≤ a) : Calls Try.prog 106 #[aggP p, .agg #[.int .i64 28, .int .u64 x, .int .i64 a, .int .i64 b]] w (RetD w (ifNamed (inFs P a) (if (fnAtM P a).ps = [0] ∧ (fnAtM P a).r = 0 then ⟨[0], [0], 0⟩ else bad 7))) := by
  obtain ⟨n1, n2, n3⟩ := fn_len h
  have HR := Lib.hid h
  have HS := Lib.hid hs
  rcases inFs_cases P ha with ⟨hin, hge⟩ | ⟨k, rfl, hk, hin, hfn⟩
  · rw [hin]
    obtain ⟨u, ⟨ga, gn, gc⟩, m, ⟨fa, fn, fc⟩⟩ := p
    simp only at n1 n2 n3
    subst n1
    have hno : ¬ (a < P.fs.length) := by omega
    show Calls _ _ _ _ (RetD w (bad 5))
    unfold aggP Sl.v
    simp only
    clear h hs hin
    go_enter Try.func106, Try.ntmps106
    go_wp2_with fail
    go_ret3
    exact ⟨none, 0, none, 0, rfl, readI_nil _, readI_nil _, by (repeat' (first | exact Below.refl _ _ | assumption | refine b_alloc ?_ _ | refine b_over ?_ _ | refine b_drew ?_ | refine b_call ?_ (by assumption)))⟩
  · rw [hin, hfn]
    show Calls _ _ _ _ (RetD w (if (P.fs[k]).ps = [0] ∧ (P.fs[k]).r = 0 then ⟨[0], [0], 0⟩ else bad 7))
    obtain ⟨bb, oo, ea, hlt, v, hd, d0, d1, d2, d3⟩ := fn_at h hk
    have HD := Lib.hid hd
    have hsm := (hs.a _ (List.getElem_mem hk)).p
    obtain ⟨u, ⟨ga, gn, gc⟩, m, ⟨fa, fn, fc⟩⟩ := p
    simp only at n1 n2 n3 ea
    subst n1 ea
    obtain ⟨⟨pa, pn, pc⟩, ⟨la, ln, lc⟩, r, ⟨ca, cn, cc⟩⟩ := v
    obtain ⟨e1, e2, e3⟩ := int_len hd.p
    have hdp := hd.p
    simp only at e1 e2 e3 d0 d1 d2 d3
    have k0 : (0 : Int) ≤ k := by omega
    have k1 : (k : Int) < P.fs.length := by omega
    have k2 : k < fc := by omega
    generalize P.fs[k] = f at *
    subst e1
    have HP := Lib.hid hdp
    unfold aggP Sl.v
    simp only
    clear h hs hin hfn hd
    by_cases hp : f.ps = [0]
    · rw [hp] at hdp
      obtain ⟨b9, o9, c9, e9, _, _, hlt9, h9⟩ := readI_pos hdp (by simp)
      have e10 : f.ps.length = 1 := by rw [hp]; rfl
      rw [e10] at d0
      have e11 : pa = some ⟨b9, o9, none⟩ := by injection e9
      rw [e11] at d0
      have hc := h9 0 (by simp)
      simp only [Nat.add_zero, List.getD_cons_zero] at hc
      have hx1 : b9 < w.heap.size + 1 := by omega
      have hx2 : b9 < w.heap.size + 1 + 1 := by omega
      have hpc : 1 ≤ pc := by rw [← e10]; exact e2
      by_cases hr : f.r = 0
      · rw [if_pos ⟨hp, hr⟩]
        rw [hr] at d2
        clear h9 e9 hdp e10 e11 hp hr HD HP
        go_enter Try.func106, Try.ntmps106
        go_wp2_with fail
        go_ret3
        exact ⟨_, _, _, _, rfl, readI_below (readI_lit [0] (by simp) (by simp)) (b_alloc (Below.refl _ _) _), readI_lit [0] (by simp) (by simp), by (repeat' (first | exact Below.refl _ _ | assumption | refine b_alloc ?_ _ | refine b_over ?_ _ | refine b_drew ?_ | refine b_call ?_ (by assumption)))⟩
      · rw [if_neg (fun q => hr q.2)]
        have hr2 : (f.r != 0) = true := by rw [bne_iff_ne]; exact hr
        clear h9 e9 hdp e10 e11 hp hr HD HP
        go_enter Try.func106, Try.ntmps106
        go_wp2_with fail
        go_ret3
        exact ⟨none, 0, none, 0, rfl, readI_nil _, readI_nil _, by (repeat' (first | exact Below.refl _ _ | assumption | refine b_alloc ?_ _ | refine b_over ?_ _ | refine b_drew ?_ | refine b_call ?_ (by assumption)))⟩
    · rw [if_neg (fun q => hp q.1)]
      by_cases hl : f.ps.length = 1
      · obtain ⟨y, hy⟩ : ∃ y, f.ps = [y] := by
          match hq : f.ps, hl with
          | [y], _ => exact ⟨y, rfl⟩
        rw [hy] at hdp
        obtain ⟨b9, o9, c9, e9, _, _, hlt9, h9⟩ := readI_pos hdp (by simp)
        rw [hl] at d0
        have e11 : pa = some ⟨b9, o9, none⟩ := by injection e9
        rw [e11] at d0
        have hc := h9 0 (by simp)
        simp only [Nat.add_zero, List.getD_cons_zero] at hc
        have hx1 : b9 < w.heap.size + 1 := by omega
        have hx2 : b9 < w.heap.size + 1 + 1 := by omega
        have hpc : 1 ≤ pc := by rw [← hl]; exact e2
        have hy0 : y ≠ 0 := fun e => hp (by rw [hy, e])
        have hy2 : (y != 0) = true := by rw [bne_iff_ne]; exact hy0
        clear h9 e9 hdp hl e11 hp HD HP hy hy0
        go_enter Try.func106, Try.ntmps106
        go_wp2_with fail
        go_ret3
        exact ⟨none, 0, none, 0, rfl, readI_nil _, readI_nil _, by (repeat' (first | exact Below.refl _ _ | assumption | refine b_alloc ?_ _ | refine b_over ?_ _ | refine b_drew ?_ | refine b_call ?_ (by assumption)))⟩
      · have hl2 : ((f.ps.length : Int) != 1) = true := by rw [bne_iff_ne]; omega
        clear hdp hl hp HD HP
        go_enter Try.func106, Try.ntmps106
        go_wp2_with fail
        go_ret3
        exact ⟨none, 0, none, 0, rfl, readI_nil _, readI_nil _, by (repeat' (first | exact Below.refl _ _ | assumption | refine b_alloc ?_ _ | refine b_over ?_ _ | refine b_drew ?_ | refine b_call ?_ (by assumption)))⟩
theorem rkindsA (op : Nat) (h : op < 37) (w : World) : Calls Try.prog 108 #[.string (tabA (tabC op))] w (RetI w (takesT op)) := by
  match op, h with
  | 0, _ => exact rkinds_0 w
  | 1, _ => exact rkinds_0 w
  | 2, _ => exact rkinds_0 w
  | 3, _ => exact rkinds_0 w
  | 4, _ => exact rkinds_0 w
  | 5, _ => exact rkinds_0 w
  | 6, _ => exact rkinds_0 w
  | 7, _ => exact rkinds_0 w
  | 8, _ => exact rkinds_0 w
  | 9, _ => exact rkinds_0 w
  | 10, _ => exact rkinds_0 w
  | 11, _ => exact rkinds_0 w
  | 12, _ => exact rkinds_0 w
  | 13, _ => exact rkinds_i w
  | 14, _ => exact rkinds_0 w
  | 15, _ => exact rkinds_0 w
  | 16, _ => exact rkinds_0 w
  | 17, _ => exact rkinds_0 w
  | 18, _ => exact rkinds_r w
  | 19, _ => exact rkinds_rr w
  | 20, _ => exact rkinds_r w
  | 21, _ => exact rkinds_ri w
  | 22, _ => exact rkinds_r w
  | 23, _ => exact rkinds_i w
  | 24, _ => exact rkinds_p w
  | 25, _ => exact rkinds_p w
  | 26, _ => exact rkinds_pi w
  | 27, _ => exact rkinds_p w
  | 28, _ => exact rkinds_i w
  | 29, _ => exact rkinds_i w
  | 30, _ => exact rkinds_0 w
  | 31, _ => exact rkinds_0 w
  | 32, _ => exact rkinds_0 w
  | 33, _ => exact rkinds_i w
  | 34, _ => exact rkinds_f w
  | 35, _ => exact rkinds_i w
  | 36, _ => exact rkinds_i w
  | n + 37, h => exact absurd h (by omega)
theorem rkindsB (op : Nat) (h : op < 37) (w : World) : Calls Try.prog 108 #[.string (tabB (tabC op))] w (RetI w (putsT op)) := by
  match op, h with
  | 0, _ => exact rkinds_0 w
  | 1, _ => exact rkinds_i w
  | 2, _ => exact rkinds_f w
  | 3, _ => exact rkinds_r w
  | 4, _ => exact rkinds_0 w
  | 5, _ => exact rkinds_0 w
  | 6, _ => exact rkinds_0 w
  | 7, _ => exact rkinds_0 w
  | 8, _ => exact rkinds_0 w
  | 9, _ => exact rkinds_0 w
  | 10, _ => exact rkinds_0 w
  | 11, _ => exact rkinds_0 w
  | 12, _ => exact rkinds_0 w
  | 13, _ => exact rkinds_0 w
  | 14, _ => exact rkinds_0 w
  | 15, _ => exact rkinds_0 w
  | 16, _ => exact rkinds_0 w
  | 17, _ => exact rkinds_r w
  | 18, _ => exact rkinds_r w
  | 19, _ => exact rkinds_0 w
  | 20, _ => exact rkinds_i w
  | 21, _ => exact rkinds_0 w
  | 22, _ => exact rkinds_i w
  | 23, _ => exact rkinds_p w
  | 24, _ => exact rkinds_i w
  | 25, _ => exact rkinds_i w
  | 26, _ => exact rkinds_0 w
  | 27, _ => exact rkinds_i w
  | 28, _ => exact rkinds_i w
  | 29, _ => exact rkinds_i w
  | 30, _ => exact rkinds_0 w
  | 31, _ => exact rkinds_0 w
  | 32, _ => exact rkinds_0 w
  | 33, _ => exact rkinds_0 w
  | 34, _ => exact rkinds_0 w
  | 35, _ => exact rkinds_0 w
  | 36, _ => exact rkinds_p w
  | n + 37, h => exact absurd h (by omega)
end Go.Proofs.Ytdmidnmciaediaa
