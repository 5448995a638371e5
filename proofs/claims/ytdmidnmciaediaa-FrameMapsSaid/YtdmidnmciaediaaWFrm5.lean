/- Layer 28: the contracts of local and Local; comparing values; chapter 28's example. Conditions: those stated. Layer 28: chapter 28's example. No conditions. Layer 28: the contracts of the law's Ours; of Refs, ByMaps, SetLocal, Go of what is not there. No conditions. -/
import Derived.Test.YtdmidnmciaediaaWFrm4
import Derived.Test.YtdmidnmciaediaaWTypP
import Derived.Laws.StructEq
namespace Go.Proofs.Ytdmidnmciaediaa
section
open Go.RowKit
set_option linter.unusedVariables false
set_option linter.unusedSimpArgs false
attribute [local go_sem] over_cell over_frozen
variable {w0 w w' : World} {s : Nat} {p : PrV} {P : PrM} {lv : Sl} {ds : List FrD} {L : List FrM} {d : FrD} {m : FrM}
theorem eqVal (k1 b1 k2 b2 : Int) (w : World) : (binOp .eql 41 (.agg #[.int .i64 k1, .int .u64 b1]) (.agg #[.int .i64 k2, .int .u64 b2])).run Try.prog w = .ok (.bool (k1 == k2 && b1 == b2)) w := by
  have hS : Try.prog.underlying 41 = some (.struct (Try.prog.fieldsOf 41)) := by kernel_rfl
  have hp : Try.prog.stoodInHeld 41 = false := by kernel_rfl
  rw [run_eql_struct, show (10000 : Nat) = 9999 + 1 from rfl, run_equalIn_agg w 9999 _ _ _ hS hp]
  simp only [Program.fieldsOf, Try.underlying41]
  go_simp
  by_cases h1 : k1 = k2 <;> by_cases h2 : b1 = b2 <;> simp [h1, h2]
theorem guardVal (op : BinOp) (a b : Operand) (xs ys : Array Value) (w : World) : Sem.run Try.prog (eqGuard op 41 a b (.agg xs) (.agg ys)) w = .ok () w := run_eqGuard_agg w op _ a b xs ys (by kernel_rfl)
theorem flo_none (h : FrsAt w0 w s p lv ds []) (k : Int) : Calls Try.prog 76 #[fp s, .int .i64 k] w fun e w' => e = .returned (.tuple #[.pointer none, .int .i64 6]) ∧ w = w' := by
  have HT := Lib.hid (ftop_none h)
  unfold fp at *
  clear h
  go_enter Try.func76, Try.ntmps76
  go_wp2_with fail
  refine HT.out.mono ?_
  rintro e w1 ⟨rfl, rfl⟩
  go_wp2_with fail
  go_ret2
  exact ⟨rfl, rfl⟩
theorem flo_out (h : FrsAt w0 w s p lv (ds ++ [d]) (L ++ [m])) (k : Int) (hk : ¬ (0 ≤ k ∧ k < m.loc.length)) : Calls Try.prog 76 #[fp s, .int .i64 k] w fun e w' => e = .returned (.tuple #[.pointer none, .int .i64 3]) ∧ w = w' := by
  have HT := Lib.hid (ftop_any h)
  obtain ⟨_, _, c2, _, _⟩ := fr_cells (frs_ok h)
  have hl := (own_sl (frs_ok h).l).2
  have hcap := cap_le hl.2
  have hlc := hl.1
  unfold fp at *
  clear h hl
  rcases (show k < 0 ∨ (0 ≤ k ∧ (m.loc.length : Int) ≤ k) by omega) with q | ⟨q1, q2⟩
  · go_enter Try.func76, Try.ntmps76
    go_wp2_with fail
    refine HT.out.mono ?_
    rintro e w1 ⟨rfl, rfl⟩
    go_wp2_with fail
    go_ret2
    exact ⟨rfl, rfl⟩
  · have q3 : ¬ (k < m.loc.length) := by omega
    go_enter Try.func76, Try.ntmps76
    go_wp2_with fail
    refine HT.out.mono ?_
    rintro e w1 ⟨rfl, rfl⟩
    go_wp2_with fail
    go_ret2
    exact ⟨rfl, rfl⟩
theorem flo_any (h : FrsAt w0 w s p lv (ds ++ [d]) (L ++ [m])) (k : Nat) (hk : k < m.loc.length) : Calls Try.prog 76 #[fp s, .int .i64 k] w fun e w' => e = .returned (.tuple #[fp d.b, .int .i64 0]) ∧ w = w' := by
  have HT := Lib.hid (ftop_any h)
  obtain ⟨_, _, c2, _, _⟩ := fr_cells (frs_ok h)
  have hl := (own_sl (frs_ok h).l).2
  have hcap := cap_le hl.2
  have hlc := hl.1
  have k0 : (0 : Int) ≤ k := by omega
  have k1 : (k : Int) < m.loc.length := by omega
  unfold fp at *
  clear h hl hk
  go_enter Try.func76, Try.ntmps76
  go_wp2_with fail
  refine HT.out.mono ?_
  rintro e w1 ⟨rfl, rfl⟩
  go_wp2_with fail
  go_ret2
  exact ⟨rfl, rfl⟩
theorem flocal_none (h : FrsAt w0 w s p lv ds []) (k : Int) : Calls Try.prog 35 #[fp s, .int .i64 k] w fun e w' => e = .returned (.tuple #[aggV ⟨0, 0⟩, .int .i64 6]) ∧ Below w.heap.size w w' := by
  have HT := Lib.hid (flo_none (frs_below h (b_alloc (Below.refl w.heap.size w) (.cells #[.int .i64 0, .int .u64 0] VALT))) k)
  clear h
  unfold aggV fp at *
  go_enter Try.func35, Try.ntmps35
  go_wp2_with fail
  refine HT.out.mono ?_
  rintro e w1 ⟨rfl, rfl⟩
  go_wp2_with fail
  exact bodyPost_ret (v := .tuple #[.agg #[.int .i64 0, .int .u64 0], .int .i64 6]) (by simp [results, Try.results35, go_sem]) rfl ⟨rfl, by (repeat' (first | exact Below.refl _ _ | assumption | refine b_alloc ?_ _ | refine b_over ?_ _ | refine b_drew ?_ | refine b_call ?_ (by assumption)))⟩
theorem flocal_out (h : FrsAt w0 w s p lv (ds ++ [d]) (L ++ [m])) (k : Int) (hk : ¬ (0 ≤ k ∧ k < m.loc.length)) : Calls Try.prog 35 #[fp s, .int .i64 k] w fun e w' => e = .returned (.tuple #[aggV ⟨0, 0⟩, .int .i64 3]) ∧ Below w.heap.size w w' := by
  have HT := Lib.hid (flo_out (frs_below h (b_alloc (Below.refl w.heap.size w) (.cells #[.int .i64 0, .int .u64 0] VALT))) k hk)
  clear h
  unfold aggV fp at *
  go_enter Try.func35, Try.ntmps35
  go_wp2_with fail
  refine HT.out.mono ?_
  rintro e w1 ⟨rfl, rfl⟩
  go_wp2_with fail
  exact bodyPost_ret (v := .tuple #[.agg #[.int .i64 0, .int .u64 0], .int .i64 3]) (by simp [results, Try.results35, go_sem]) rfl ⟨rfl, by (repeat' (first | exact Below.refl _ _ | assumption | refine b_alloc ?_ _ | refine b_over ?_ _ | refine b_drew ?_ | refine b_call ?_ (by assumption)))⟩
/-- A row of values, one of them in memory. -/
theorem val_at {B : Nat} {sl : Sl} {M : List ValM} (h : OwnR valE VALT w B sl.v M) {k : Nat} (hk : k < M.length) : ∃ g, sl.a = some ⟨g, 0, none⟩ ∧ g < w.heap.size ∧ tyB w g = some VALT ∧ w.cell? ⟨g, k * 2, none⟩ = some (.int .i64 M[k].k) ∧ w.cell? ⟨g, k * 2 + 1, none⟩ = some (.int .u64 M[k].b) ∧ (∀ i, w.frozen? ⟨g, i, none⟩ = false) ∧ B ≤ g := by
  obtain ⟨g, cap, e, e6, hgl, _, hB, hb⟩ := ownR_form h (by omega)
  have ea : sl.a = some ⟨g, 0, none⟩ := by
    have e2 : Value.slice sl.a sl.n sl.c = .slice (some ⟨g, 0, none⟩) M.length cap := e
    injection e2
  have ho : sl.v.ownBlock = some g := by unfold Sl.v; rw [ea]; rfl
  have hn := own_sl h
  have hr := readR_blk (c := valE) hb (Nat.le_refl _) (Nat.le_trans hn.2.1 hn.2.2)
  obtain ⟨b', o, c', e5, _, _, _, h9⟩ := valR_pos hr (by omega)
  cases e5
  obtain ⟨v0, v1⟩ := h9 k hk
  simp only [Nat.zero_add] at v0 v1
  exact ⟨g, ea, (ownR_lt h g ho).2, ownR_ty h g ho, v0, v1, hb.2.2, (ownR_lt h g ho).1⟩
theorem flocal_any (h : FrsAt w0 w s p lv (ds ++ [d]) (L ++ [m])) (k : Nat) (hk : k < m.loc.length) : Calls Try.prog 35 #[fp s, .int .i64 k] w fun e w' => e = .returned (.tuple #[aggV m.loc[k], .int .i64 0]) ∧ Below w.heap.size w w' := by
  have h1 := frs_below h (b_alloc (Below.refl w.heap.size w) (.cells #[.int .i64 0, .int .u64 0] VALT))
  have HT := Lib.hid (flo_any h1 k hk)
  obtain ⟨_, _, c2, _, _⟩ := fr_cells (frs_ok h)
  obtain ⟨g, ea, hg, _, v0, v1, _, _⟩ := val_at (frs_ok h).l hk
  have hl := (own_sl (frs_ok h).l).2
  have hcap := cap_le hl.2
  have hlc := hl.1
  have k0 : (0 : Int) ≤ k := by omega
  have k1 : (k : Int) < m.loc.length := by omega
  have hdl := (frs_ok h).hd.1
  rw [ea] at c2
  generalize m.loc[k] = v at *
  obtain ⟨vk, vb⟩ := v
  simp only at v0 v1
  unfold aggV fp at *
  clear h h1 hl hk ea
  go_enter Try.func35, Try.ntmps35
  go_wp2_with fail
  refine HT.out.mono ?_
  rintro e w1 ⟨rfl, rfl⟩
  go_wp2_with fail
  exact bodyPost_ret (v := .tuple #[.agg #[.int .i64 vk, .int .u64 vb], .int .i64 0]) (by simp [results, Try.results35, go_sem]) rfl ⟨rfl, by (repeat' (first | exact Below.refl _ _ | assumption | refine b_alloc ?_ _ | refine b_over ?_ _ | refine b_drew ?_ | refine b_call ?_ (by assumption)))⟩
end
section
open Go.RowKit
set_option linter.unusedVariables false
set_option linter.unusedSimpArgs false
attribute [local go_sem] over_cell over_frozen
def prW28 : PrM := ⟨false, [], 0, [⟨[0], [], 0, []⟩]⟩
theorem wake_small28 : SmallP prW28 := by
  refine ⟨by decide, by decide, fun f hf => ?_⟩
  simp only [prW28, List.mem_singleton] at hf
  subst hf
  exact ⟨by decide, by decide, by decide⟩
set_option maxHeartbeats 800000 in
theorem awake28 (w : World) : Calls Try.prog 24 #[] w fun e w' => e = .returned (.bool true) ∧ Below w.heap.size w w' := by
  obtain ⟨W, hW⟩ : ∃ W, W = (w.alloc (.cells #[.int .i64 0] INTT)).alloc (.cells #[.slice (some ⟨w.heap.size, 0, none⟩) 1 1, .slice none 0 0, .int .i64 0, .slice none 0 0] 122) := ⟨_, rfl⟩
  have hR : ReadP W ⟨false, ⟨none, 0, 0⟩, 0, ⟨some ⟨w.heap.size + 1, 0, none⟩, 1, 1⟩⟩ prW28 := by
    have h1 : ReadR intE (w.alloc (.cells #[.int .i64 0] INTT)) (.slice (some ⟨w.heap.size, 0, none⟩) 1 1) [0] := readR_new (c := intE) w INTT 0
    have h2 := readR_new (c := fnE) (w.alloc (.cells #[.int .i64 0] INTT)) 122 ⟨⟨some ⟨w.heap.size, 0, none⟩, 1, 1⟩, ⟨none, 0, 0⟩, 0, ⟨none, 0, 0⟩⟩
    rw [World.size_alloc] at h2
    rw [hW]
    exact ⟨rfl, readI_nil _, rfl, _, h2, ⟨readI_below (readR_I h1) (b_alloc (Below.refl _ _) _), readI_nil _, rfl, readR_nil _⟩, trivial⟩
  have HB : Hid (Below w.heap.size w W) := by rw [hW]; exact b_alloc (b_alloc (Below.refl _ _) _) _
  have HR := Lib.hid hR
  clear hR
  have HN := Lib.hid (fnew_any ⟨false, ⟨none, 0, 0⟩, 0, ⟨some ⟨w.heap.size + 1, 0, none⟩, 1, 1⟩⟩ (Below.refl W.heap.size W))
  rw [hW] at HN
  go_enter Try.func24, Try.ntmps24
  go_wp2_with fail
  refine HN.out.mono ?_
  rw [← hW]
  clear HN hW
  rintro e w1 ⟨s, rfl, hf1, hs1, hb1⟩
  go_wp2_with fail
  refine (vint_any 7 _).mono ?_
  rintro e w2 ⟨rfl, hb2⟩
  have hf2 := frs_below hf1 hb2
  have HA : Hid (ReadR valE (w2.alloc (.cells #[.int .i64 0, .int .u64 7] VALT)) (.slice (some ⟨w2.heap.size, 0, none⟩) 1 1) [⟨0, 7⟩]) := readR_new (c := valE) w2 VALT ⟨0, 7⟩
  have hf3 := frs_below hf2 (b_alloc (Below.refl w2.heap.size w2) (.cells #[.int .i64 0, .int .u64 7] VALT))
  have HF3 := Lib.hid hf3
  have HB1 := Lib.hid (b_call HB.out hb1)
  clear hf1 hf2 hf3 hb1 hb2
  unfold aggV intV
  go_wp2_with fail
  refine (fcall_any (P := prW28) HF3.out HR.out wake_small28 0 (by decide) HA.out (by decide) rfl (by decide)).mono ?_
  rintro e w4 ⟨rfl, ⟨lv4, ds4, hf4⟩, hg4⟩
  obtain ⟨ds', d', rfl, _, _⟩ := frAll_last hf4.fr
  have HF4 := Lib.hid hf4
  have HL := Lib.hid (flocal_any hf4 0 (by decide))
  clear hf4 hg4
  go_wp2_with fail
  refine HL.out.mono ?_
  rintro e w5 ⟨rfl, hb5⟩
  have e7 : ((([⟨0, 7⟩] : List ValM) ++ zeroV (prW28.fs[0]'(by decide)).ls)[0]'(by decide)) = ⟨0, 7⟩ := rfl
  have hf5 := frs_below HF4.out hb5
  have HF5 := Lib.hid hf5
  clear hf5
  unfold aggV
  simp only
  have BX := blk_new w5 #[.int .i64 0, .int .u64 7] VALT
  have HK : Hid (∀ w', Below (w5.alloc (.cells #[.int .i64 0, .int .u64 7] VALT)).heap.size (w5.alloc (.cells #[.int .i64 0, .int .u64 7] VALT)) w' → w'.cell? ⟨w5.heap.size, 0, none⟩ = some (.int .i64 0) ∧ w'.cell? ⟨w5.heap.size, 1, none⟩ = some (.int .u64 7)) := Lib.hid (fun w' hb => by
    obtain ⟨y0, y1, _⟩ := blk2 (blk_below BX hb); exact ⟨y0, y1⟩)
  have HB6 : Hid (Below w2.heap.size w2 w2) := Below.refl _ _
  have HF6 := Lib.hid (frs_below HF5.out (b_alloc (Below.refl w5.heap.size w5) (.cells #[.int .i64 0, .int .u64 7] VALT)))
  clear BX
  go_upto_region 4 with fail
  have kg := guardVal
  have kq : ∀ w, (binOp .eql 41 (.agg #[.int .i64 0, .int .u64 7]) (.agg #[.int .i64 0, .int .u64 7])).run Try.prog w = .ok (.bool true) w := fun w => by rw [eqVal]; rfl
  refine wp_region_held_drew (S := (fun w' => w'.cell? ⟨w5.heap.size, 0, none⟩ = some (.int .i64 0) ∧ w'.cell? ⟨w5.heap.size, 1, none⟩ = some (.int .u64 7))) (by kernel_rfl) (HK.out _ (b_drew (Below.refl _ _))) (fun hHeld => ?_)
  refine atI 0 ?_
  iterate 8 (refine takeN (v := ?_) rfl (by rfl) ?_ hHeld ?_; rotate_left; (focus (intro w hSw; (try dsimp only at hSw); go_simp; try (with_reducible rfl))); (try simp only [Act.put, Nat.reduceAdd, List.getElem_toArray, List.getElem_cons_succ, List.getElem_cons_zero, List.setIfInBounds_toArray, List.set_cons_zero, List.set_cons_succ]))
  refine atIo ?_
  refine wpAnyH_ready (rs := [8]) (by kernel_rfl) (by simp) (AllReadyH.cons rfl (fun K hK => ?_) AllReadyH.nil)
  go_simp
  refine (vint_any 7 _).mono ?_
  rintro e w8 ⟨rfl, hb8⟩
  unfold aggV intV
  refine hK.out _ _ (HK.out _ (by (repeat' (first | exact Below.refl _ _ | assumption | refine b_alloc ?_ _ | refine b_over ?_ _ | refine b_drew ?_ | refine b_call ?_ (by assumption))))) (fun hHeld => ?_)
  clear hK K
  (try simp only [Act.put, List.getElem_toArray, List.getElem_cons_succ, List.getElem_cons_zero, List.setIfInBounds_toArray, List.set_cons_zero, List.set_cons_succ])
  refine atI 9 ?_
  iterate 4 (refine takeN (v := ?_) rfl (by rfl) ?_ hHeld ?_; rotate_left; (focus (intro w hSw; (try dsimp only at hSw); go_simp; try (with_reducible rfl))); (try simp only [Act.put, Nat.reduceAdd, List.getElem_toArray, List.getElem_cons_succ, List.getElem_cons_zero, List.setIfInBounds_toArray, List.set_cons_zero, List.set_cons_succ]))
  refine atIo ?_
  refine wpAnyH_ready (rs := [13]) (by kernel_rfl) (by simp) (AllReadyH.cons rfl (fun K hK => ?_) AllReadyH.nil)
  go_simp
  refine (flen_any (frs_below HF6.out (b_call (b_drew (Below.refl _ _)) hb8))).mono ?_
  rintro e w9 ⟨rfl, rfl⟩
  refine hK.out _ _ (HK.out _ (by (repeat' (first | exact Below.refl _ _ | assumption | refine b_alloc ?_ _ | refine b_over ?_ _ | refine b_drew ?_ | refine b_call ?_ (by assumption))))) (fun hHeld => ?_)
  clear hK K
  (try simp only [Act.put, List.getElem_toArray, List.getElem_cons_succ, List.getElem_cons_zero, List.setIfInBounds_toArray, List.set_cons_zero, List.set_cons_succ])
  refine atI 14 ?_
  iterate 3 (refine takeN (v := ?_) rfl (by rfl) ?_ hHeld ?_; rotate_left; (focus (intro w hSw; (try dsimp only at hSw); go_simp; try (with_reducible rfl))); (try simp only [Act.put, Nat.reduceAdd, List.getElem_toArray, List.getElem_cons_succ, List.getElem_cons_zero, List.setIfInBounds_toArray, List.set_cons_zero, List.set_cons_succ]))
  refine atIo ?_
  refine wpAnyH_done (by kernel_rfl) ?_ _
  go_wp2_with fail
  go_ret
  have hlast := (frs_below HF6.out (b_call (b_drew (Below.refl _ _)) hb8)).be
  exact ⟨rfl, b_call HB.out hlast⟩
end
section
open Go.RowKit
set_option linter.unusedVariables false
set_option linter.unusedSimpArgs false
attribute [local go_sem] over_cell over_frozen
theorem lours28 (k b : Int) (w : World) : Calls Try.prog 36 #[.agg #[.int .i64 k, .int .u64 b]] w fun e w' => e = .returned (aggV ⟨k, b⟩) ∧ Below w.heap.size w w' := by
  unfold aggV
  go_enter Try.func36, Try.ntmps36
  go_wp2_with fail
  exact bodyPost_ret (v := .agg #[.int .i64 k, .int .u64 b]) (by simp [results, Try.results36, go_sem]) rfl ⟨rfl, by (try simp); (repeat' (first | exact Below.refl _ _ | assumption | refine b_alloc ?_ _ | refine b_over ?_ _ | refine b_drew ?_ | refine b_call ?_ (by assumption)))⟩
end
end Go.Proofs.Ytdmidnmciaediaa
