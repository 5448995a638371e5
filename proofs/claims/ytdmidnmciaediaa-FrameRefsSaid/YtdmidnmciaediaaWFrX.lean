/- Layer 28: the contracts of the program's SetLocal, Go; of the law's Plain, all. Conditions: those stated. -/
import Derived.Test.YtdmidnmciaediaaWFrR
import Derived.Test.YtdmidnmciaediaaWFrm5
import Derived.Laws.OwnMore
import Derived.BigQuiet
namespace Go.Proofs.Ytdmidnmciaediaa
open Go.RowKit
set_option linter.unusedVariables false
set_option linter.unusedSimpArgs false
attribute [local go_sem] over_cell over_frozen
variable {w0 w w' : World} {s : Nat} {p : PrV} {lv : Sl} {ds : List FrD} {L : List FrM} {d : FrD} {m : FrM}
theorem valrow_set : ∀ (M : List ValM) (k : Nat) (v : ValM), k < M.length → ((valE.row M).set (k * 2) (.int .i64 v.k)).set (k * 2 + 1) (.int .u64 v.b) = valE.row (M.set k v)
  | x :: M, 0, v, _ => by
    rw [row_cons, List.set_cons_zero, row_cons]
    show ((Value.int .i64 x.k :: Value.int .u64 x.b :: valE.row M).set 0 _).set 1 _ = Value.int .i64 v.k :: Value.int .u64 v.b :: valE.row M
    rfl
  | x :: M, k + 1, v, h => by
    have ih := valrow_set M k v (by simpa using h)
    rw [row_cons, List.set_cons_succ, row_cons, ← ih]
    have e1 : (k + 1) * 2 = k * 2 + 1 + 1 := by omega
    rw [e1]
    show ((Value.int .i64 x.k :: Value.int .u64 x.b :: valE.row M).set (k * 2 + 1 + 1) _).set (k * 2 + 1 + 1 + 1) _ = Value.int .i64 x.k :: Value.int .u64 x.b :: _
    rfl
theorem ownR_val_set {B : Nat} {sl : Sl} {M : List ValM} {g : Nat} (h : OwnR valE VALT w B sl.v M) (hg : sl.a = some ⟨g, 0, none⟩) {k : Nat} (hk : k < M.length) (v : ValM) : OwnR valE VALT ((w.setCell ⟨g, k * 2, none⟩ (.int .i64 v.k)).setCell ⟨g, k * 2 + 1, none⟩ (.int .u64 v.b)) B sl.v (M.set k v) := by
  obtain ⟨n1, n2, n3⟩ := own_sl h
  obtain ⟨a, n, c⟩ := sl
  simp only at hg n1
  subst hg n1
  unfold OwnR Sl.v at *
  rw [List.length_set, ← valrow_set M k v hk]
  exact (World.ownsRow.stored (World.ownsRow.stored h (k * 2) (.int .i64 v.k)).1 (k * 2 + 1) (.int .u64 v.b)).1
theorem fset_none (h : FrsAt w0 w s p lv ds []) (k : Int) (v : ValM) : Calls Try.prog 37 #[fp s, .int .i64 k, aggV v] w fun e w' => e = .returned (.int .i64 6) ∧ Below w.heap.size w w' := by
  have HF := Lib.hid (fun w' (hb : Below w.heap.size w w') => flo_none (frs_below h hb) k)
  clear h
  unfold fp aggV at *
  go_enter Try.func37, Try.ntmps37
  go_wp2_with fail
  refine (HF.out _ (b_alloc (Below.refl _ _) _)).mono ?_
  rintro e w1 ⟨rfl, rfl⟩
  go_wp2_with fail
  go_ret
  exact ⟨rfl, b_alloc (Below.refl _ _) _⟩
theorem fset_out (h : FrsAt w0 w s p lv (ds ++ [d]) (L ++ [m])) (k : Int) (hk : ¬ (0 ≤ k ∧ k < m.loc.length)) (v : ValM) : Calls Try.prog 37 #[fp s, .int .i64 k, aggV v] w fun e w' => e = .returned (.int .i64 3) ∧ Below w.heap.size w w' := by
  have HF := Lib.hid (fun w' (hb : Below w.heap.size w w') => flo_out (frs_below h hb) k hk)
  clear h hk
  unfold fp aggV at *
  go_enter Try.func37, Try.ntmps37
  go_wp2_with fail
  refine (HF.out _ (b_alloc (Below.refl _ _) _)).mono ?_
  rintro e w1 ⟨rfl, rfl⟩
  go_wp2_with fail
  go_ret
  exact ⟨rfl, b_alloc (Below.refl _ _) _⟩
def FSetEnd (w0 w : World) (s : Nat) (p : PrV) (lv : Sl) (ds : List FrD) (L : List FrM) (m : FrM) (e : Ending) (w' : World) : Prop := e = .returned (.int .i64 0) ∧ FrsAt w0 w' s p lv ds (L ++ [m]) ∧ GrT w w'
set_option maxRecDepth 100000 in
set_option maxHeartbeats 2000000 in
theorem fset_kind (h : FrsAt w0 w s p lv (ds ++ [d]) (L ++ [m])) (k : Nat) (hk : k < m.loc.length) (v : ValM) (hv : m.loc[k].k ≠ v.k) : Calls Try.prog 37 #[fp s, .int .i64 k, aggV v] w fun e w' => e = .returned (.int .i64 1) ∧ Below w.heap.size w w' := by
  have HF := Lib.hid (fun w' (hb : Below w.heap.size w w') => flo_any (frs_below h hb) k hk)
  obtain ⟨_, _, c2, _, _⟩ := fr_cells (frs_ok h)
  have hdz := (frs_ok h).hd.1
  obtain ⟨n1, n2, n3⟩ := own_sl (frs_ok h).l
  obtain ⟨g, ea, hgz, _, v0, v1, _, _⟩ := val_at (frs_ok h).l hk
  have hcap := cap_le n3
  have k0 : (0 : Int) ≤ k := by omega
  have k1 : (k : Int) < m.loc.length := by omega
  have hvv : (v.k != m.loc[k].k) = true := bne_iff_ne.2 (fun e => hv e.symm)
  rw [ea] at c2
  generalize m.loc[k] = x at *
  unfold fp aggV at *
  clear h hk hv n1 ea
  go_enter Try.func37, Try.ntmps37
  go_upto_region 1 with fail
  refine wp_named ?_
  intro W hW
  have X0 : Blk W w.heap.size [.int .i64 v.k, .int .u64 v.b] := by rw [hW]; exact blk_new _ _ _
  have HBW := Lib.hid (show Below w.heap.size w W by rw [hW]; exact b_alloc (Below.refl _ _) _)
  have c2' := ((bcell HBW.out).1 _ _ hdz).trans c2
  have hdz' := Nat.lt_of_lt_of_le hdz HBW.out.size
  have v0' := ((bcell HBW.out).1 _ _ hgz).trans v0
  have v1' := ((bcell HBW.out).1 _ _ hgz).trans v1
  have hgz' := Nat.lt_of_lt_of_le hgz HBW.out.size
  obtain ⟨y0, y1, _⟩ := blk2 X0
  have yz := X0.1
  clear hW X0 c2 hdz v0 v1 hgz
  go_wp2_with fail
  refine (HF.out _ HBW.out).mono ?_
  rintro e w1 ⟨rfl, rfl⟩
  go_upto_region 4 with fail
  go_big_quiet (fail)
  go_wp2_with fail
  go_ret
  exact ⟨rfl, b_drewN HBW.out _⟩
set_option maxRecDepth 100000 in
set_option maxHeartbeats 2000000 in
theorem fset_any (h : FrsAt w0 w s p lv (ds ++ [d]) (L ++ [m])) (k : Nat) (hk : k < m.loc.length) (v : ValM) (hv : m.loc[k].k = v.k) : Calls Try.prog 37 #[fp s, .int .i64 k, aggV v] w (FSetEnd w0 w s p lv (ds ++ [d]) L ⟨m.f, m.at_, m.loc.set k v, m.stk⟩) := by
  have HF := Lib.hid (fun w' (hb : Below w.heap.size w w') => flo_any (frs_below h hb) k hk)
  obtain ⟨_, _, c2, _, _⟩ := fr_cells (frs_ok h)
  have hdz := (frs_ok h).hd.1
  obtain ⟨n1, n2, n3⟩ := own_sl (frs_ok h).l
  obtain ⟨g, ea, hgz, hgT, v0, v1, vf, hgB⟩ := val_at (frs_ok h).l hk
  have hcap := cap_le n3
  have k0 : (0 : Int) ≤ k := by omega
  have k1 : (k : Int) < m.loc.length := by omega
  have hvv : (v.k != m.loc[k].k) = false := by rw [hv]; simp
  rw [ea] at c2
  have HFIN : Hid (∀ W9, Below w.heap.size w W9 → FSetEnd w0 w s p lv (ds ++ [d]) L ⟨m.f, m.at_, m.loc.set k v, m.stk⟩ (.returned (.int .i64 0)) ((W9.setCell ⟨g, k * 2, none⟩ (.int .i64 v.k)).setCell ⟨g, k * 2 + 1, none⟩ (.int .u64 v.b))) := Lib.hid (fun W9 hb => by
    have h9 := frs_below h hb
    have ho := frs_ok h9
    have hgd : g ≠ d.b := fun e => by
      have t := tyB_call hgT hb
      rw [e, ho.ty] at t; injection t with t; exact absurd t (by decide)
    have hown : d.owns g := Or.inl (by unfold Sl.v; rw [ea]; rfl)
    have hsne : d.sv.v.ownBlock ≠ some g := ho.ne g (by unfold Sl.v; rw [ea]; rfl)
    have hgr : GrowX W9 ((W9.setCell ⟨g, k * 2, none⟩ (.int .i64 v.k)).setCell ⟨g, k * 2 + 1, none⟩ (.int .u64 v.b)) (fun j => j = d.b ∨ d.owns j) := gx_set (gx_set (gx_refl _ _) (p := ⟨g, k * 2, none⟩) (Or.inr (Or.inr hown)) _) (p := ⟨g, k * 2 + 1, none⟩) (Or.inr (Or.inr hown)) _
    have hok : FrOk w0.heap.size ((W9.setCell ⟨g, k * 2, none⟩ (.int .i64 v.k)).setCell ⟨g, k * 2 + 1, none⟩ (.int .u64 v.b)) d ⟨m.f, m.at_, m.loc.set k v, m.stk⟩ := ⟨blk_other (blk_other ho.hd hgd _) hgd _, by rw [tyB_set, tyB_set]; exact ho.ty, ownR_val_set ho.l ea hk v, ownsRow_setCell_other (ownsRow_setCell_other ho.s (a := ⟨g, k * 2, none⟩) hsne _) (a := ⟨g, k * 2 + 1, none⟩) hsne _, ho.ne, ho.lo⟩
    refine ⟨rfl, frs_top h9 hgr hok rfl (fun k hk => Or.inl hk), grT_trans (grT_below hb) (grT_of hgr (fun j hj hx => ?_))⟩
    rcases hx with rfl | hx
    · exact Or.inr (Or.inr (Or.inl ho.ty))
    · exact Or.inr (Or.inr (Or.inr (frOk_ty ho j hx))))
  generalize m.loc[k] = x at *
  unfold fp aggV at *
  clear h hk hv n1 ea hgT hgB
  go_enter Try.func37, Try.ntmps37
  go_upto_region 1 with fail
  refine wp_named ?_
  intro W hW
  have X0 : Blk W w.heap.size [.int .i64 v.k, .int .u64 v.b] := by rw [hW]; exact blk_new _ _ _
  have HBW := Lib.hid (show Below w.heap.size w W by rw [hW]; exact b_alloc (Below.refl _ _) _)
  have HX0 := Lib.hid X0
  have c2' := ((bcell HBW.out).1 _ _ hdz).trans c2
  have hdz' := Nat.lt_of_lt_of_le hdz HBW.out.size
  have v0' := ((bcell HBW.out).1 _ _ hgz).trans v0
  have v1' := ((bcell HBW.out).1 _ _ hgz).trans v1
  have vf' : ∀ i, W.frozen? ⟨g, i, none⟩ = false := fun i => ((bcell HBW.out).2 _ _ hgz).trans (vf i)
  have hgz' := Nat.lt_of_lt_of_le hgz HBW.out.size
  obtain ⟨y0, y1, _⟩ := blk2 X0
  have yz := X0.1
  clear hW X0 c2 hdz v0 v1 hgz vf
  go_wp2_with fail
  refine (HF.out _ HBW.out).mono ?_
  rintro e w1 ⟨rfl, rfl⟩
  go_upto_region 4 with fail
  go_big_quiet (fail)
  obtain ⟨W1, hW1⟩ : ∃ x, x = W.drewN nq := ⟨_, rfl⟩
  rw [← hW1]
  have hbD : Below W.heap.size W W1 := by rw [hW1]; exact b_drewN (Below.refl _ _) _
  have c2'' := ((bcell hbD).1 _ _ hdz').trans c2'
  have v0'' := ((bcell hbD).1 _ _ hgz').trans v0'
  have v1'' := ((bcell hbD).1 _ _ hgz').trans v1'
  have vf'' : ∀ i, W1.frozen? ⟨g, i, none⟩ = false := fun i => ((bcell hbD).2 _ _ hgz').trans (vf' i)
  have hdz'' := Nat.lt_of_lt_of_le hdz' hbD.size
  have hgz'' := Nat.lt_of_lt_of_le hgz' hbD.size
  obtain ⟨z0, z1, _⟩ := blk2 (blk_below HX0.out hbD)
  have zz := (blk_below HX0.out hbD).1
  have HB1 := Lib.hid (b_call HBW.out hbD)
  clear hW1 hbD c2' v0' v1' vf' hdz' hgz' y0 y1 yz
  go_upto_region 6 with fail
  go_region
  refine thenF_named ?_
  intro W2 hW2
  have e2 : ∃ W9, Below w.heap.size w W9 ∧ W2 = (W9.setCell ⟨g, k * 2, none⟩ (.int .i64 v.k)).setCell ⟨g, k * 2 + 1, none⟩ (.int .u64 v.b) := by
    rw [hW2]
    first
    | exact ⟨W1.drew, b_drew HB1.out, rfl⟩
    | exact ⟨W1, HB1.out, rfl⟩
  clear hW2
  go_wp2_with fail
  go_ret
  obtain ⟨W9, hb9, rfl⟩ := e2
  exact HFIN.out W9 hb9
theorem fgo_none (h : FrsAt w0 w s p lv ds []) (a : Int) : Calls Try.prog 38 #[fp s, .int .i64 a] w fun e w' => e = .returned (.int .i64 6) ∧ Below w.heap.size w w' := by
  have HF := Lib.hid (ftop_none h)
  clear h
  unfold fp at *
  go_enter Try.func38, Try.ntmps38
  go_wp2_with fail
  refine HF.out.mono ?_
  rintro e w1 ⟨rfl, rfl⟩
  go_wp2_with fail
  go_ret
  exact ⟨rfl, Below.refl _ _⟩
theorem lplain28 (k b : Int) (w : World) : Calls Try.prog 69 #[.agg #[.int .i64 k, .int .u64 b]] w fun e w' => e = .returned (aggV ⟨k, b⟩) ∧ Below w.heap.size w w' := by
  unfold aggV
  go_enter Try.func69, Try.ntmps69
  go_wp2_with fail
  exact bodyPost_ret (v := .agg #[.int .i64 k, .int .u64 b]) (by simp [results, Try.results69, go_sem]) rfl ⟨rfl, by (repeat' (first | exact Below.refl _ _ | assumption | refine b_alloc ?_ _ | refine b_over ?_ _ | refine b_drew ?_ | refine b_call ?_ (by assumption)))⟩
theorem ownR_slOk8 {α : Type} {c : Elt α} {E : TypeId} {w : World} {B : Nat} {a : Option Addr} {n cap : Nat} {L : List α} (h : OwnR c E w B (.slice a n cap) L) : slOk w E a n := by
  rcases Nat.eq_zero_or_pos L.length with q | q
  · obtain ⟨_, _, e, _, _⟩ := readR_len (ownR_read h)
    injection e with _ e2 _
    exact Or.inl (by omega)
  · obtain ⟨g, cap', e, _, _, _, _, _⟩ := ownR_form h q
    injection e with e1 _ _
    subst e1
    exact Or.inr ⟨g, rfl, ownR_ty h g rfl⟩
def RetV (w : World) (M : List ValM) (e : Ending) (w' : World) : Prop := ∃ a c, e = .returned (.slice a M.length c) ∧ ReadR valE w' (.slice a M.length c) M ∧ slOk w' VALT a M.length ∧ Below w.heap.size w w'
set_option maxHeartbeats 1000000 in
theorem lall28 (u : Value) (M : List ValM) (w : World) (h : ReadR valE w u M) (hl : M.length ≤ 100) : Calls Try.prog 64 #[u] w (RetV w M) := by
  obtain ⟨a, cap, rfl, m2, m3⟩ := readR_len h
  have H := Lib.hid h
  have hcap := cap_le m3
  have HLL := Lib.hid hl
  have hl1 : (M.length : Int) ≤ 100 := by omega
  clear h hl m3
  go_enter Try.func64, Try.ntmps64
  go_wp2_with fail
  go_loopw [3, 8] (fun v i wr => ∃ k : Nat, k ≤ M.length ∧ i = .int .i64 k ∧ (∃ (a : Option Addr) (n c : Nat) (LL : List ValM), v = .slice a n c ∧ n = LL.length ∧ Hid (LL = M.take k) ∧ Hid (OwnR valE VALT wr w.heap.size (.slice a LL.length c) LL)) ∧ Hid (Below w.heap.size w wr)) (fun _ i _ => M.length - (intOf i).toNat)
  case atStart => exact ⟨0, Nat.zero_le _, rfl, ⟨none, 0, 0, [], rfl, rfl, Lib.hid rfl, Lib.hid (ownR_nil _ _)⟩, Lib.hid (Below.refl _ _)⟩
  case round =>
    obtain ⟨W1, hW1⟩ : ∃ x, x = wr := ⟨_, rfl⟩
    subst hW1
    obtain ⟨k, hk, rfl, ⟨a', n', c', LL, rfl, rfl, HEQ, HOW⟩, HB⟩ := hrel
    have k0 : (0 : Int) ≤ k := by omega
    by_cases hlt : k < M.length
    · have k1 : (k : Int) < M.length := by omega
      obtain ⟨bl, off, cp, e1, r1, r2, hbl, r4⟩ := valR_pos (readR_below H.out HB.out) (by omega)
      injection e1 with e1 _ e3
      subst e1
      obtain ⟨x0, x1⟩ := r4 k hlt
      have HT : Hid (M.take (k + 1) = M.take k ++ [M[k]]) := Lib.hid (List.take_succ_eq_append_getElem hlt)
      have HLN : Hid (LL.length = k) := Lib.hid (by rw [HEQ.out, List.length_take]; omega)
      generalize M[k] = x at *
      obtain ⟨xk, xb⟩ := x
      simp only at x0 x1
      clear r4 r1 r2 e3
      go_upto_region 5 with fail
      refine wp_named ?_
      intro W2 hW2
      have S2 : Blk W2 W1.heap.size [.int .i64 xk, .int .u64 xb] ∧ Below W1.heap.size W1 W2 := by
        rw [hW2]
        exact ⟨blk_new _ _ _, b_alloc (Below.refl _ _) _⟩
      have HO2 := Lib.hid (ownR_below HOW.out S2.2)
      have HB2 := Lib.hid (b_call HB.out S2.2)
      obtain ⟨y0, y1, _⟩ := blk2 S2.1
      have yz := S2.1.1
      clear hW2 S2 x0 x1 hbl
      go_wp2_with fail
      refine (lours28 xk xb _).mono ?_
      rintro e w3 ⟨rfl, hb3⟩
      have HO3 := Lib.hid (ownR_below HO2.out hb3)
      have HB3 := Lib.hid (b_call HB2.out hb3)
      have hbs := HB3.out.size
      unfold aggV
      clear hb3 y0 y1 yz
      go_wp2_with (at_builtin; refine append1 (c := valE) valT (by rfl) _ _ (by rfl) (by rfl) (v := .slice a' LL.length c') (L := LL) (B := w.heap.size) (ownR_alloc HO3.out _) (⟨xk, xb⟩ : ValM) _ 1 (by rfl) (blk_new3 rfl) ?c1 ?c2 ?c3 ?_; (case c1 => (have := HLN.out; omega)); (case c2 => (have := HLN.out; unfold maxLen; omega)); (case c3 => (simp; omega)); intro g9 cap9 w9 ho9 hg9 hor9 hl9; have HO9 := Lib.hid ho9; have HG9 := Lib.hid hg9; clear ho9 hg9 hor9 hl9)
      go_roundw
      case rel => exact ⟨k + 1, by omega, by first | rfl | go_num, ⟨some ⟨g9, 0, none⟩, LL.length + 1, cap9, LL ++ [⟨xk, xb⟩], rfl, by simp, Lib.hid (by rw [HT.out, HEQ.out]), Lib.hid (by rw [List.length_append]; exact HO9.out)⟩, Lib.hid (b_ownR (b_alloc HB3.out _) (ownR_alloc HO3.out _) HG9.out)⟩
      case measure => simp [intOf]; omega
    · have k1 : ¬ ((k : Int) < M.length) := by omega
      have HF : Hid (LL = M) := Lib.hid (by rw [HEQ.out, List.take_of_length_le (by omega)])
      go_wp2_with fail
      go_ret
      rw [← HF.out]
      exact ⟨a', c', rfl, ownR_read HOW.out, ownR_slOk8 HOW.out, HB.out⟩
end Go.Proofs.Ytdmidnmciaediaa
