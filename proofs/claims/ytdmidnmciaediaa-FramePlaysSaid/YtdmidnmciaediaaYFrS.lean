/- Layer 28: the contracts of the document's Return, Local. Conditions: those stated. -/
import Derived.Test.YtdmidnmciaediaaYFrR
import Derived.Deep.RegionLaw
import Derived.Deep.RegionLawGrows
import Derived.BigQuiet
namespace Go.Proofs.Ytdmidnmciaediaa
open Go.RowKit
set_option linter.unusedVariables false
set_option linter.unusedSimpArgs false
attribute [local go_sem] over_cell over_frozen
variable {w0 w w' : World} {r : Nat} {q : PrV} {lv : Sl} {L : List FrM} {m : FrM}
theorem rret_none (h : DocF w0 w r q lv []) : Calls Try.prog 66 #[rp r] w fun e w' => e = .returned (.int .i64 6) ∧ w = w' := by
  obtain ⟨n1, n2, n3⟩ := doc_len h
  obtain ⟨u, ⟨ga, gn, gc⟩, qm, ⟨fa, fn, fc⟩⟩ := q
  obtain ⟨la, ln, lc⟩ := lv
  simp only [List.length_nil] at n1 n2 n3
  subst n1
  have b4 := h.hd.2.1 4 (by simp)
  simp only [List.getElem_cons_succ, List.getElem_cons_zero] at b4
  have bz := h.hd.1
  clear h n2
  unfold rp
  go_enter Try.func66, Try.ntmps66
  go_wp2_with fail
  go_ret
  exact ⟨rfl, rfl⟩
def RetEnd (w0 w : World) (r : Nat) (q : PrV) (L : List FrM) (e : Ending) (w' : World) : Prop := e = .returned (.int .i64 0) ∧ ∃ lv', DocF w0 w' r q lv' L ∧ GrowX w w' (fun j => j = r)
set_option maxHeartbeats 1000000 in
theorem rret_any (h : DocF w0 w r q lv (L ++ [m])) (hL : L.length ≤ 24) : Calls Try.prog 66 #[rp r] w (RetEnd w0 w r q L) := by
  obtain ⟨n1, n2, n3⟩ := doc_len h
  rw [List.length_append, List.length_singleton] at n1 n2
  have HFIN : Hid (∀ w1, Below w.heap.size w w1 → RetEnd w0 w r q L (.returned (.int .i64 0)) (w1.setCell ⟨r, 4, none⟩ (.slice lv.a L.length lv.c))) := Lib.hid (fun w1 hb => by
    obtain ⟨V, x, hR, hl, hk, _⟩ := doc_R2 h
    have hb1 := docR_below hR hb
    have z := docR_put hR hb (lv' := ⟨lv.a, L.length, lv.c⟩) (V' := V) (by
      have y := readR_take (n := V.length) hb1.rd (by rw [List.length_append]; omega)
      rw [List.take_left, hl] at y
      exact y) (by
      rcases hb1.rt with y | y
      · rw [n1] at y; omega
      · exact Or.inr y)
    exact ⟨rfl, _, doc_less h z.2 z.1 hl (fun k a b => rfOk_gx h.ty (hk k a b) z.2), z.2⟩)
  obtain ⟨u, ⟨ga, gn, gc⟩, qm, ⟨fa, fn, fc⟩⟩ := q
  obtain ⟨la, ln, lc⟩ := lv
  simp only at n1 n2 n3 HFIN
  subst n1
  have HBOX := Lib.hid h.hd
  have b4 := h.hd.2.1 4 (by simp)
  simp only [List.getElem_cons_succ, List.getElem_cons_zero] at b4
  have bz := h.hd.1
  have bf := h.hd.2.2
  have nl : (L.length : Int) ≤ 24 := by omega
  have ncl : (L.length : Int) ≤ lc := by omega
  have ncl1 : (L.length : Int) + 1 ≤ lc := by omega
  have wl : IntKind.i64.wrap (L.length : Int) = L.length := by rw [IntKind.wrap_i64]; omega
  have nl0 : (0 : Int) ≤ L.length := by omega
  have nz : ((L.length : Int) + 1 == 0) = false := beq_false_of_ne (by omega)
  clear h n2 hL
  unfold rp
  go_enter Try.func66, Try.ntmps66
  go_upto_region 3 with fail
  have HS : Hid (∀ w', Below w.heap.size w w' → w'.cell? ⟨r, 4, none⟩ = some (.slice la (L.length + 1) lc)) := Lib.hid (fun w' hb => (blk_below HBOX.out hb).2.1 4 (by simp))
  refine wp_region_E (S := fun w' => w'.cell? ⟨r, 4, none⟩ = some (.slice la (L.length + 1) lc)) 14 (by kernel_rfl) (HS.out _ (b_drew (Below.refl _ _))) (fun hHeld => ?_)
  (refine wpAnyE_take (n := 12) (i := 0) (v := ?_) rfl (by kernel_rfl) (by kernel_rfl) (by kernel_rfl) (by kernel_rfl) (by kernel_rfl) (fun _ _ _ h => h) (Or.inl ⟨by rfl, ?_⟩) hHeld ?_; rotate_left; (focus (intro w hSw; (try dsimp only at hSw); go_simp; try (with_reducible rfl))); (try simp only [Act.put, List.getElem_toArray, List.getElem_cons_succ, List.getElem_cons_zero, List.setIfInBounds_toArray, List.set_cons_zero, List.set_cons_succ]))
  (refine wpAnyE_take (n := 12) (i := 1) (v := ?_) rfl (by kernel_rfl) (by kernel_rfl) (by kernel_rfl) (by kernel_rfl) (by kernel_rfl) (fun _ _ _ h => h) (Or.inl ⟨by rfl, ?_⟩) hHeld ?_; rotate_left; (focus (intro w hSw; (try dsimp only at hSw); go_simp; try (with_reducible rfl))); (try simp only [Act.put, List.getElem_toArray, List.getElem_cons_succ, List.getElem_cons_zero, List.setIfInBounds_toArray, List.set_cons_zero, List.set_cons_succ]))
  (refine wpAnyE_take (n := 12) (i := 2) (v := ?_) rfl (by kernel_rfl) (by kernel_rfl) (by kernel_rfl) (by kernel_rfl) (by kernel_rfl) (fun _ _ _ h => h) (Or.inl ⟨by rfl, ?_⟩) hHeld ?_; rotate_left; (focus (intro w hSw; (try dsimp only at hSw); go_simp; try (with_reducible rfl))); (try simp only [Act.put, List.getElem_toArray, List.getElem_cons_succ, List.getElem_cons_zero, List.setIfInBounds_toArray, List.set_cons_zero, List.set_cons_succ]))
  (refine wpAnyE_take (n := 12) (i := 3) (v := ?_) rfl (by kernel_rfl) (by kernel_rfl) (by kernel_rfl) (by kernel_rfl) (by kernel_rfl) (fun _ _ _ h => h) (Or.inl ⟨by rfl, ?_⟩) hHeld ?_; rotate_left; (focus (intro w hSw; (try dsimp only at hSw); go_simp; try (with_reducible rfl))); (try simp only [Act.put, List.getElem_toArray, List.getElem_cons_succ, List.getElem_cons_zero, List.setIfInBounds_toArray, List.set_cons_zero, List.set_cons_succ]))
  (refine wpAnyE_take (n := 12) (i := 4) (v := ?_) rfl (by kernel_rfl) (by kernel_rfl) (by kernel_rfl) (by kernel_rfl) (by kernel_rfl) (fun _ _ _ h => h) (Or.inl ⟨by rfl, ?_⟩) hHeld ?_; rotate_left; (focus (intro w hSw; (try dsimp only at hSw); go_simp; try (with_reducible rfl))); (try simp only [Act.put, List.getElem_toArray, List.getElem_cons_succ, List.getElem_cons_zero, List.setIfInBounds_toArray, List.set_cons_zero, List.set_cons_succ]))
  (refine wpAnyE_take (n := 12) (i := 5) (v := ?_) rfl (by kernel_rfl) (by kernel_rfl) (by kernel_rfl) (by kernel_rfl) (by kernel_rfl) (fun _ _ _ h => h) (Or.inl ⟨by rfl, ?_⟩) hHeld ?_; rotate_left; (focus (intro w hSw; (try dsimp only at hSw); go_simp; try (with_reducible rfl))); (try simp only [Act.put, List.getElem_toArray, List.getElem_cons_succ, List.getElem_cons_zero, List.setIfInBounds_toArray, List.set_cons_zero, List.set_cons_succ]))
  (refine wpAnyE_take (n := 12) (i := 6) (v := ?_) rfl (by kernel_rfl) (by kernel_rfl) (by kernel_rfl) (by kernel_rfl) (by kernel_rfl) (fun _ _ _ h => h) (Or.inl ⟨by rfl, ?_⟩) hHeld ?_; rotate_left; (focus (intro w hSw; (try dsimp only at hSw); go_simp; try (with_reducible rfl))); (try simp only [Act.put, List.getElem_toArray, List.getElem_cons_succ, List.getElem_cons_zero, List.setIfInBounds_toArray, List.set_cons_zero, List.set_cons_succ]))
  (refine wpAnyE_take (n := 12) (i := 7) (v := ?_) rfl (by kernel_rfl) (by kernel_rfl) (by kernel_rfl) (by kernel_rfl) (by kernel_rfl) (fun _ _ _ h => h) (Or.inl ⟨by rfl, ?_⟩) hHeld ?_; rotate_left; (focus (intro w hSw; (try dsimp only at hSw); go_simp; try (with_reducible rfl))); (try simp only [Act.put, List.getElem_toArray, List.getElem_cons_succ, List.getElem_cons_zero, List.setIfInBounds_toArray, List.set_cons_zero, List.set_cons_succ]))
  (refine wpAnyE_take (n := 12) (i := 8) (v := ?_) rfl (by kernel_rfl) (by kernel_rfl) (by kernel_rfl) (by kernel_rfl) (by kernel_rfl) (fun _ _ _ h => h) (Or.inl ⟨by rfl, ?_⟩) hHeld ?_; rotate_left; (focus (intro w hSw; (try dsimp only at hSw); go_simp; try (with_reducible rfl))); (try simp only [Act.put, List.getElem_toArray, List.getElem_cons_succ, List.getElem_cons_zero, List.setIfInBounds_toArray, List.set_cons_zero, List.set_cons_succ]))
  (refine wpAnyE_take (n := 12) (i := 9) (v := ?_) rfl (by kernel_rfl) (by kernel_rfl) (by kernel_rfl) (by kernel_rfl) (by kernel_rfl) (fun _ _ _ h => h) (Or.inl ⟨by rfl, ?_⟩) hHeld ?_; rotate_left; (focus (intro w hSw; (try dsimp only at hSw); go_simp; try (with_reducible rfl))); (try simp only [Act.put, List.getElem_toArray, List.getElem_cons_succ, List.getElem_cons_zero, List.setIfInBounds_toArray, List.set_cons_zero, List.set_cons_succ]))
  (refine wpAnyE_take (n := 12) (i := 10) (v := ?_) rfl (by kernel_rfl) (by kernel_rfl) (by kernel_rfl) (by kernel_rfl) (by kernel_rfl) (fun _ _ _ h => h) (Or.inl ⟨by rfl, ?_⟩) hHeld ?_; rotate_left; (focus (intro w hSw; (try dsimp only at hSw); go_simp; try (with_reducible rfl))); (try simp only [Act.put, List.getElem_toArray, List.getElem_cons_succ, List.getElem_cons_zero, List.setIfInBounds_toArray, List.set_cons_zero, List.set_cons_succ]))
  (refine wpAnyE_take (n := 12) (i := 11) (v := ?_) rfl (by kernel_rfl) (by kernel_rfl) (by kernel_rfl) (by kernel_rfl) (by kernel_rfl) (fun _ _ _ h => h) (Or.inl ⟨by rfl, ?_⟩) hHeld ?_; rotate_left; (focus (intro w hSw; (try dsimp only at hSw); go_simp; try (with_reducible rfl))); (try simp only [Act.put, List.getElem_toArray, List.getElem_cons_succ, List.getElem_cons_zero, List.setIfInBounds_toArray, List.set_cons_zero, List.set_cons_succ]))
  (refine wpAnyE_take (n := 12) (i := 12) (v := ?_) rfl (by kernel_rfl) (by kernel_rfl) (by kernel_rfl) (by kernel_rfl) (by kernel_rfl) (fun _ _ _ h => h) (Or.inl ⟨by rfl, ?_⟩) hHeld ?_; rotate_left; (focus (intro w hSw; (try dsimp only at hSw); go_simp; try (with_reducible rfl))); (try simp only [Act.put, List.getElem_toArray, List.getElem_cons_succ, List.getElem_cons_zero, List.setIfInBounds_toArray, List.set_cons_zero, List.set_cons_succ]))
  (refine wpAnyE_take (n := 12) (i := 13) (v := ?_) rfl (by kernel_rfl) (by kernel_rfl) (by kernel_rfl) (by kernel_rfl) (by kernel_rfl) (fun _ _ _ h => h) (Or.inl ⟨by rfl, ?_⟩) hHeld ?_; rotate_left; (focus (intro w hSw; (try dsimp only at hSw); go_simp; try (with_reducible rfl))); (try simp only [Act.put, List.getElem_toArray, List.getElem_cons_succ, List.getElem_cons_zero, List.setIfInBounds_toArray, List.set_cons_zero, List.set_cons_succ]))
  refine wpAnyE_ready (rs := [14]) (by kernel_rfl) (by simp) (AllReadyE.last rfl (fun K hK => ?_))
  go_simp
  refine hK.out _ _ (trivial) (fun hHeld => ?_)
  clear hK K
  (try simp only [Act.put, List.getElem_toArray, List.getElem_cons_succ, List.getElem_cons_zero, List.setIfInBounds_toArray, List.set_cons_zero, List.set_cons_succ])
  refine wpAnyE_done (by kernel_rfl) ?_
  go_wp2_with fail
  go_ret
  exact HFIN.out _ (b_drew (Below.refl _ _))
theorem doc_top (h : DocF w0 w r q lv (L ++ [m])) : ∃ vb vo, ∃ v : RfV, lv.a = some ⟨vb, vo, none⟩ ∧ vb < w.heap.size ∧ RfOk w v m ∧ w.cell? ⟨vb, vo + L.length * 4, none⟩ = some (.int .i64 m.f) ∧ w.cell? ⟨vb, vo + L.length * 4 + 1, none⟩ = some (.int .i64 m.at_) ∧ w.cell? ⟨vb, vo + L.length * 4 + 2, none⟩ = some (.slice v.l.a m.loc.length v.l.c) ∧ w.cell? ⟨vb, vo + L.length * 4 + 3, none⟩ = some (.slice v.s.a m.stk.length v.s.c) ∧ v.l.n = m.loc.length ∧ v.s.n = m.stk.length := by
  obtain ⟨V, h1, h2, h3, h4⟩ := h.row
  rw [List.length_append, List.length_singleton] at h3
  obtain ⟨vb, vo, cap, e, _, _, hlt, hc⟩ := readR_pos h1 (by omega)
  injection e with e1 _ _
  have hk : L.length < V.length := by omega
  have hok := h4 L.length hk (by rw [List.length_append, List.length_singleton]; omega)
  rw [List.getElem_append_right (Nat.le_refl _)] at hok
  simp only [Nat.sub_self, List.getElem_cons_zero] at hok
  obtain ⟨_, _, el, _, _⟩ := readR_len hok.l
  obtain ⟨_, _, es, _, _⟩ := readR_len hok.s
  injection el with _ el2 _
  injection es with _ es2 _
  have c0 : w.cell? ⟨vb, vo + L.length * 4, none⟩ = some (.int .i64 V[L.length].f) := hc L.length hk 0 (by decide)
  have c1 : w.cell? ⟨vb, vo + L.length * 4 + 1, none⟩ = some (.int .i64 V[L.length].at_) := hc L.length hk 1 (by decide)
  have c2 : w.cell? ⟨vb, vo + L.length * 4 + 2, none⟩ = some (.slice V[L.length].l.a V[L.length].l.n V[L.length].l.c) := hc L.length hk 2 (by decide)
  have c3 : w.cell? ⟨vb, vo + L.length * 4 + 3, none⟩ = some (.slice V[L.length].s.a V[L.length].s.n V[L.length].s.c) := hc L.length hk 3 (by decide)
  exact ⟨vb, vo, V[L.length], e1, hlt, hok, by rw [← hok.f]; exact c0, by rw [← hok.a]; exact c1, by rw [← el2]; exact c2, by rw [← es2]; exact c3, el2, es2⟩
theorem rloc_none (h : DocF w0 w r q lv []) (k : Int) : Calls Try.prog 70 #[rp r, .int .i64 k] w fun e w' => e = .returned (.tuple #[aggV ⟨0, 0⟩, .int .i64 6]) ∧ Below w.heap.size w w' := by
  obtain ⟨n1, n2, n3⟩ := doc_len h
  obtain ⟨u, ⟨ga, gn, gc⟩, qm, ⟨fa, fn, fc⟩⟩ := q
  obtain ⟨la, ln, lc⟩ := lv
  simp only [List.length_nil] at n1 n2 n3
  subst n1
  have b4 := h.hd.2.1 4 (by simp)
  simp only [List.getElem_cons_succ, List.getElem_cons_zero] at b4
  have bz := h.hd.1
  clear h n2
  unfold rp
  go_enter Try.func70, Try.ntmps70
  go_wp2_with fail
  exact bodyPost_ret (v := .tuple #[aggV ⟨0, 0⟩, .int .i64 6]) (by simp [results, Try.results70, go_sem, aggV]) rfl ⟨rfl, by first | exact b_alloc (Below.refl _ _) _ | exact b_grown (b_alloc (Below.refl _ _) _) (gb_set (gb_set (gb_refl _ (some w.heap.size)) _ _ _) _ _ _) (Nat.le_refl _)⟩
set_option maxRecDepth 100000 in
set_option maxHeartbeats 2000000 in
theorem rloc_any (h : DocF w0 w r q lv (L ++ [m])) (hL : L.length ≤ 24) (k : Nat) (hk : k < m.loc.length) : Calls Try.prog 70 #[rp r, .int .i64 k] w fun e w' => e = .returned (.tuple #[aggV m.loc[k], .int .i64 0]) ∧ Below w.heap.size w w' := by
  obtain ⟨n1, n2, n3⟩ := doc_len h
  rw [List.length_append, List.length_singleton] at n1 n2
  obtain ⟨vb, vo, v, ea, hvb, hv, c0, c1, c2, c3, e1, e2⟩ := doc_top h
  obtain ⟨lb, lo, lcap, el, hl1, _, hlb, hlc⟩ := valR_pos hv.l (by omega)
  injection el with el1 _ el3
  rw [el1] at c2
  obtain ⟨hk0, hk1⟩ := hlc k hk
  have HV := Lib.hid hv
  obtain ⟨va, vb', ⟨wa, wn, wc⟩, ⟨ya, yn, yc⟩⟩ := v
  obtain ⟨u, ⟨ga, gn, gc⟩, qm, ⟨fa, fn, fc⟩⟩ := q
  obtain ⟨la, ln, lc⟩ := lv
  simp only at n1 n2 n3 ea c2 c3 el3
  subst n1
  subst ea
  have b4 := h.hd.2.1 4 (by simp)
  simp only [List.getElem_cons_succ, List.getElem_cons_zero] at b4
  have bz := h.hd.1
  have nl : (L.length : Int) ≤ 24 := by omega
  have ncl : (L.length : Int) < lc := by omega
  have wl : IntKind.i64.wrap (L.length : Int) = L.length := by rw [IntKind.wrap_i64]; omega
  have nl0 : (0 : Int) ≤ L.length := by omega
  have nll : (L.length : Int) < L.length + 1 := by omega
  have nz : ((L.length : Int) + 1 == 0) = false := beq_false_of_ne (by omega)
  have k0 : (0 : Int) ≤ k := by omega
  have k1 : (k : Int) < m.loc.length := by omega
  have kc : (k : Int) < wc := by omega
  obtain ⟨vk, vbits⟩ : ∃ vk, vk = m.loc[k] := ⟨_, rfl⟩
  rw [← vbits] at hk0 hk1 ⊢
  obtain ⟨xk, xb⟩ := vk
  have HXX := Lib.hid vbits
  simp only at hk0 hk1
  clear h n2 hL el1 el3 hv hl1 hlc e1 e2 vbits
  unfold rp
  go_enter Try.func70, Try.ntmps70
  go_upto_region 3 with fail
  go_region
  refine thenF_named ?_
  intro W hW
  have S1 : Blk W w.heap.size [.int .i64 0, .int .u64 0] ∧ Blk W (w.heap.size + 1) [.int .i64 m.f, .int .i64 m.at_, .slice (some ⟨lb, lo, none⟩) m.loc.length wc, .slice ya m.stk.length yc] ∧ Below w.heap.size w W := by
    rw [hW]
    obtain ⟨z1, z2, z3⟩ := boxF2 w #[.int .i64 0, .int .u64 0] #[.int .i64 m.f, .int .i64 m.at_, .slice (some ⟨lb, lo, none⟩) m.loc.length wc, .slice ya m.stk.length yc] VRT RFT
    exact ⟨z1, z2, b_drew z3⟩
  have HB := Lib.hid S1.2.2
  obtain ⟨y0, y1, yf⟩ := blk2 S1.1
  obtain ⟨x0, x1, x2, x3, _⟩ := blk4 S1.2.1
  have yz := S1.1.1
  have xz := S1.2.1.1
  have g0 := ((bcell HB.out).1 _ _ hlb).trans hk0
  have g1 := ((bcell HB.out).1 _ _ hlb).trans hk1
  have gz := Nat.lt_of_lt_of_le hlb HB.out.size
  clear hW S1 b4 bz hk0 hk1 hlb c0 c1 c2 c3 hvb
  go_wp2_with fail
  refine post_named ?_
  intro w9 hw9
  have g9 : W.grownBy w9 (some w.heap.size) ∧ w9.cell? ⟨w.heap.size, 0, none⟩ = some (.int .i64 xk) ∧ w9.cell? ⟨w.heap.size, 1, none⟩ = some (.int .u64 xb) := by
    subst hw9
    refine ⟨gb_set (gb_set (gb_refl _ (some w.heap.size)) _ _ _) _ _ _, by simp [go_sem, y0, y1], by simp [go_sem, y0, y1]⟩
  obtain ⟨g9, u0, u1⟩ := g9
  exact bodyPost_ret (v := .tuple #[aggV ⟨xk, xb⟩, .int .i64 0]) (by simp [results, Try.results70, go_sem, aggV, u0, u1]) rfl ⟨rfl, b_grown HB.out g9 (Nat.le_refl _)⟩
set_option maxRecDepth 100000 in
set_option maxHeartbeats 2000000 in
theorem rloc_out (h : DocF w0 w r q lv (L ++ [m])) (hL : L.length ≤ 24) (k : Int) (hk : ¬ (0 ≤ k ∧ k < m.loc.length)) : Calls Try.prog 70 #[rp r, .int .i64 k] w fun e w' => e = .returned (.tuple #[aggV ⟨0, 0⟩, .int .i64 3]) ∧ Below w.heap.size w w' := by
  obtain ⟨n1, n2, n3⟩ := doc_len h
  rw [List.length_append, List.length_singleton] at n1 n2
  obtain ⟨vb, vo, v, ea, hvb, hv, c0, c1, c2, c3, e1, e2⟩ := doc_top h
  obtain ⟨va, vb', ⟨wa, wn, wc⟩, ⟨ya, yn, yc⟩⟩ := v
  obtain ⟨u, ⟨ga, gn, gc⟩, qm, ⟨fa, fn, fc⟩⟩ := q
  obtain ⟨la, ln, lc⟩ := lv
  simp only at n1 n2 n3 ea c2 c3
  subst n1
  subst ea
  have b4 := h.hd.2.1 4 (by simp)
  simp only [List.getElem_cons_succ, List.getElem_cons_zero] at b4
  have bz := h.hd.1
  have nl : (L.length : Int) ≤ 24 := by omega
  have ncl : (L.length : Int) < lc := by omega
  have wl : IntKind.i64.wrap (L.length : Int) = L.length := by rw [IntKind.wrap_i64]; omega
  have nl0 : (0 : Int) ≤ L.length := by omega
  have nll : (L.length : Int) < L.length + 1 := by omega
  have nz : ((L.length : Int) + 1 == 0) = false := beq_false_of_ne (by omega)
  clear h n2 hL hv e1 e2
  rcases (show k < 0 ∨ (0 ≤ k ∧ (m.loc.length : Int) ≤ k) by omega) with hk1 | ⟨hk1, hk2⟩
  · clear hk
    unfold rp
    go_enter Try.func70, Try.ntmps70
    go_upto_region 3 with fail
    go_region
    refine thenF_named ?_
    intro W hW
    have S1 : Blk W w.heap.size [.int .i64 0, .int .u64 0] ∧ Blk W (w.heap.size + 1) [.int .i64 m.f, .int .i64 m.at_, .slice wa m.loc.length wc, .slice ya m.stk.length yc] ∧ Below w.heap.size w W := by
      rw [hW]
      obtain ⟨z1, z2, z3⟩ := boxF2 w #[.int .i64 0, .int .u64 0] #[.int .i64 m.f, .int .i64 m.at_, .slice wa m.loc.length wc, .slice ya m.stk.length yc] VRT RFT
      exact ⟨z1, z2, b_drew z3⟩
    have HB := Lib.hid S1.2.2
    obtain ⟨y0, y1, yf⟩ := blk2 S1.1
    obtain ⟨x0, x1, x2, x3, _⟩ := blk4 S1.2.1
    have yz := S1.1.1
    have xz := S1.2.1.1
    clear hW S1 b4 bz c0 c1 c2 c3 hvb
    go_wp2_with fail
    exact bodyPost_ret (v := .tuple #[aggV ⟨0, 0⟩, .int .i64 3]) (by simp [results, Try.results70, go_sem, aggV, y0, y1]) rfl ⟨rfl, b_grown HB.out (gb_set (gb_set (gb_refl _ (some w.heap.size)) _ _ _) _ _ _) (Nat.le_refl _)⟩
  · have hk3 : ¬ (k < 0) := by omega
    clear hk
    unfold rp
    go_enter Try.func70, Try.ntmps70
    go_upto_region 3 with fail
    go_region
    refine thenF_named ?_
    intro W hW
    have S1 : Blk W w.heap.size [.int .i64 0, .int .u64 0] ∧ Blk W (w.heap.size + 1) [.int .i64 m.f, .int .i64 m.at_, .slice wa m.loc.length wc, .slice ya m.stk.length yc] ∧ Below w.heap.size w W := by
      rw [hW]
      obtain ⟨z1, z2, z3⟩ := boxF2 w #[.int .i64 0, .int .u64 0] #[.int .i64 m.f, .int .i64 m.at_, .slice wa m.loc.length wc, .slice ya m.stk.length yc] VRT RFT
      exact ⟨z1, z2, b_drew z3⟩
    have HB := Lib.hid S1.2.2
    obtain ⟨y0, y1, yf⟩ := blk2 S1.1
    obtain ⟨x0, x1, x2, x3, _⟩ := blk4 S1.2.1
    have yz := S1.1.1
    have xz := S1.2.1.1
    clear hW S1 b4 bz c0 c1 c2 c3 hvb
    go_wp2_with fail
    exact bodyPost_ret (v := .tuple #[aggV ⟨0, 0⟩, .int .i64 3]) (by simp [results, Try.results70, go_sem, aggV, y0, y1]) rfl ⟨rfl, b_grown HB.out (gb_set (gb_set (gb_refl _ (some w.heap.size)) _ _ _) _ _ _) (Nat.le_refl _)⟩
end Go.Proofs.Ytdmidnmciaediaa
