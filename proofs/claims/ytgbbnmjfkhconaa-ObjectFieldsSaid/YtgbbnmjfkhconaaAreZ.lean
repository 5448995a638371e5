/- Layer 3: the document's Do; the law's 'right' and 'do'; the example. Conditions: at most 65536 bytes; bytes are bytes. -/
import Derived.Test.YtgbbnmjfkhconaaAreY
namespace Go.Proofs.Ytgbbnmjfkhconaa
open Go.RowKit
set_option linter.unusedVariables false
set_option linter.unusedSimpArgs false
attribute [local go_sem] over_cell over_frozen
def okK (t : ActM) : Bool := decide (0 ≤ t.k) && decide (t.k ≤ 2)
/-- Those of a kind, not too many. -/
def rightL : List ActM → Nat → List ActM
  | _, 0 => []
  | A, n + 1 => match A[n]? with
    | some t => if (rightL A n).length < 12 ∧ okK t = true then rightL A n ++ [t] else rightL A n
    | none => rightL A n
theorem rightL_len (A : List ActM) : ∀ n, (rightL A n).length ≤ 12
  | 0 => Nat.zero_le _
  | n + 1 => by
    have := rightL_len A n
    unfold rightL
    cases A[n]? with
    | none => exact this
    | some t => 
      simp only
      split
      · rw [List.length_append, List.length_singleton]; omega
      · exact this
theorem rightL_mem (A : List ActM) : ∀ n, ∀ t ∈ rightL A n, t ∈ A ∧ KindA t
  | 0, t, h => by cases h
  | n + 1, t, h => by
    unfold rightL at h
    cases hn : A[n]? with
    | none => rw [hn] at h; exact rightL_mem A n t h
    | some y =>
      rw [hn] at h
      simp only at h
      split at h
      · rename_i q
        rcases List.mem_append.1 h with z | z
        · exact rightL_mem A n t z
        · have e := List.mem_singleton.1 z
          subst e
          refine ⟨List.mem_of_getElem? hn, ?_⟩
          have := q.2
          unfold okK at this
          simp only [Bool.and_eq_true, decide_eq_true_eq] at this
          unfold KindA; omega
      · exact rightL_mem A n t h
theorem readR_b1 {α : Type} {c : Elt α} {w : World} {g : Nat} {x : α} (h : Blk w g (c.cells x)) : ReadR c w (.slice (some ⟨g, 0, none⟩) 1 1) [x] :=
  readR_one (Nat.le_refl _) (by unfold maxLen; decide) h.1 (fun j hj => by
    have hl := c.len x
    rw [Nat.zero_add, h.2.1 j (by omega), List.getElem?_eq_getElem (by omega)])
set_option maxHeartbeats 1000000 in
theorem l3right_any {w : World} (u : Value) (A : List ActM) (h : ReadR actR w u A) : Calls Try.prog 22 #[u] w fun e w' => ∃ v, e = .returned v ∧ OwnR actR ACTT w' w.heap.size v (rightL A A.length) ∧ Below w.heap.size w w' := by
  obtain ⟨ua, uc, rfl, q1, q2, q3, q4⟩ := h
  have HQ := Lib.hid q4
  have hcm := cap_le q2
  have hlm : (A.length : Int) ≤ 9223372036854775807 := by omega
  clear q4 q3
  go_enter Try.func22, Try.ntmps22
  go_wp2_with fail
  go_loopw [3, 8] (fun v i wr => ∃ k : Nat, i = .int .i64 k ∧ k ≤ A.length ∧ Hid (OwnR actR ACTT wr w.heap.size v (rightL A k)) ∧ Hid (Below w.heap.size w wr)) (fun _ i _ => A.length - (intOf i).toNat)
  case atStart => exact ⟨0, rfl, Nat.zero_le _, ownR_nil _ _, Below.refl _ _⟩
  case round =>
    obtain ⟨k, rfl, hk, ho, hb⟩ := hrel
    obtain ⟨va, vc, rfl, _, _⟩ := readR_len (ownR_read ho.out)
    have hl := rightL_len A k
    have k0 : (0 : Int) ≤ k := by omega
    by_cases hlt : k < A.length
    · obtain ⟨ab, ao, rfl, hab, h4⟩ := HQ.out (by omega)
      obtain ⟨x0, x1, x2⟩ := act_cells h4 k hlt
      rw [← (bcell hb.out).1 _ _ hab] at x0 x1 x2
      have hst : rightL A (k + 1) = if (rightL A k).length < 12 ∧ okK A[k] = true then rightL A k ++ [A[k]] else rightL A k := by
        show (match A[k]? with | some t => _ | none => _) = _
        rw [List.getElem?_eq_getElem hlt]
      generalize A[k] = t at *
      obtain ⟨tk, ta, tx⟩ := t
      simp only at x0 x1 x2
      have k1 : (k : Int) < A.length := by omega
      have HST := Lib.hid hst
      have BX : Hid (Blk (wr.alloc (.cells #[.int .i64 tk, .int .i64 ta, .int .u64 tx] 45)) wr.heap.size [.int .i64 tk, .int .i64 ta, .int .u64 tx]) := blk_new _ _ _
      have HO1 : Hid (OwnR actR ACTT (wr.alloc (.cells #[.int .i64 tk, .int .i64 ta, .int .u64 tx] 45)) w.heap.size (.slice va (rightL A k).length vc) (rightL A k)) := ownR_alloc ho.out _
      have HB1 : Hid (Below w.heap.size w (wr.alloc (.cells #[.int .i64 tk, .int .i64 ta, .int .u64 tx] 45))) := b_alloc hb.out _
      have HLT := Lib.hid hlt
      have hl2 : ((rightL A k).length : Int) ≤ 12 := by omega
      clear hst h4 q1 ho hb hlt
      by_cases hok : (rightL A k).length < 12 ∧ okK ⟨tk, ta, tx⟩ = true
      · have hk12 : ((rightL A k).length : Int) < 12 := by omega
        have hoo := hok.2
        unfold okK at hoo
        simp only [Bool.and_eq_true, decide_eq_true_eq] at hoo
        obtain ⟨t1, t2⟩ := hoo
        have e2 := HST.out
        rw [if_pos hok] at e2
        have HE2 := Lib.hid e2
        have HLL : Hid ((rightL A k).length < 12) := hok.1
        obtain ⟨z0, z1, z2, zf⟩ := blk3 BX.out
        have HRN : Hid (ReadR actR ((wr.alloc (.cells #[.int .i64 tk, .int .i64 ta, .int .u64 tx] 45)).alloc (.cells #[.int .i64 tk, .int .i64 ta, .int .u64 tx] 45)) (.slice (some ⟨wr.heap.size + 1, 0, none⟩) 1 1) [⟨tk, ta, tx⟩]) := readR_b1 (blk_at _ #[.int .i64 tk, .int .i64 ta, .int .u64 tx] _ (wr.heap.size + 1) (by simp))
        clear e2 hok HST hl
        go_wp2_with (at_builtin; refine appendR rowAct rfl _ _ rfl w.heap.size _ (rightL A k) rfl (ownR_alloc HO1.out _) _ [⟨tk, ta, tx⟩] rfl HRN.out ?c1 ?c2 ?c3 ?_; (case c1 => (have := HLL.out; simp; omega)); (case c2 => (have := HLL.out; unfold maxLen; simp; omega)); (case c3 => (have := HB1.out.size; simp at this ⊢; omega)); intro v1 w1 hown1 hg1)
        have hb1 : Below w.heap.size w w1 := b_ownR (b_alloc HB1.out _) (ownR_alloc HO1.out _) hg1
        exact ⟨⟨k + 1, by go_num, HLT.out, by rw [HE2.out]; exact hown1, hb1⟩, by simp only [intOf]; omega⟩
      · have e2 := HST.out
        rw [if_neg hok] at e2
        have HE2 := Lib.hid e2
        obtain ⟨z0, z1, z2, zf⟩ := blk3 BX.out
        have hcase : (12 : Int) ≤ (rightL A k).length ∨ ((rightL A k).length : Int) < 12 ∧ (tk < 0 ∨ (0 ≤ tk ∧ 2 < tk)) := by
          rcases Nat.lt_or_ge (rightL A k).length 12 with q | q
          · right
            refine ⟨by omega, ?_⟩
            have : ¬ okK ⟨tk, ta, tx⟩ = true := fun e => hok ⟨q, e⟩
            unfold okK at this
            simp only [Bool.and_eq_true, decide_eq_true_eq] at this
            omega
          · left; omega
        clear e2 hok HST hl
        rcases hcase with q | ⟨q, q' | ⟨q', q''⟩⟩
        all_goals
          go_wp2_with fail
          exact ⟨⟨k + 1, by go_num, HLT.out, by rw [HE2.out]; exact HO1.out, HB1.out⟩, by simp only [intOf]; omega⟩
    · have e : k = A.length := by omega
      subst e
      clear hl
      go_wp2_with fail
      go_ret
      exact ⟨_, rfl, ho.out, hb.out⟩
/-- What the law's 'do' hands back. -/
def L3Ret (w : World) (L : List Int) (A : List ActM) (b g cap : Nat) (e : Ending) (w' : World) : Prop :=
  ∃ (n : Nat) (x : Int) (tv : Value), e = .returned (.tuple #[.int .i64 n, .int .i64 x, tv]) ∧ DoneAt L A n x ∧ AreAt w' b g cap (if x = 0 then stL L A A.length else L) ∧ ReadR u64E w' tv (toldL L A n) ∧ (∀ j, tv.ownBlock = some j → w.heap.size ≤ j) ∧ GrowX w w' (fun j => j = g)
set_option maxHeartbeats 1000000 in
theorem l3do_any {w : World} {b g cap : Nat} {L : List Int} {A : List ActM} {lv : Value} (H : AreAt w b g cap L) (hr : ReadR actR w lv A) (hA : A.length ≤ 12) (hg : ∀ t ∈ A, GoodA t ∧ KindA t) (hne : ∀ j, lv.ownBlock = some j → j < w.heap.size ∧ j ≠ g) : Calls Try.prog 23 #[tp b, lv] w (L3Ret w L A b g cap) := by
  have hmf : ∀ (fn : Fn) (first cap : Array Value) (w : World), (Instr.makeFunc fn first cap).run Try.prog w = .ok (.func fn first cap) w := fun _ _ _ _ => rfl
  obtain ⟨la, lc, rfl, _, _⟩ := readR_len hr
  obtain ⟨lv, hlv⟩ : ∃ lv, lv = Value.slice la A.length lc := ⟨_, rfl⟩
  rw [← hlv] at hr hne
  obtain ⟨wD, hwD⟩ : ∃ wD, wD = (w.alloc (.cells #[lv] 32)).alloc (.cells #[.slice none 0 0] 40) := ⟨_, rfl⟩
  have hszD : wD.heap.size = w.heap.size + 2 := by rw [hwD]; simp
  have bD : Below w.heap.size w wD := by rw [hwD]; exact b_alloc (b_alloc (Below.refl _ _) _) _
  have lD : Blk wD w.heap.size [lv] := by rw [hwD]; exact blk_alloc (blk_new w #[lv] _) _
  have tD : Blk wD (w.heap.size + 1) [.slice none 0 0] := by rw [hwD]; exact blk_at _ #[.slice none 0 0] _ _ (by simp)
  have HD := are_below H bD
  have hb := H.hd.1
  have hgl := H.rw.1
  have HDO := Lib.hid (ado2 HD 69 (tp w.heap.size) (tp (w.heap.size + 1)) (fun j => j = w.heap.size + 1) (fun args w => by kernel_rfl) (fun j e => by subst e; omega) (DoZ L A (w.heap.size + 1) wD.heap.size) (fun w1 D A1 => by
    have hsz := D.sz
    refine doact_any (L := L) (A := A) (lv := lv) ⟨Nat.zero_le _, fun j hj => by omega, .slice none 0 0, .slice none 0 0, [], [], .slice none 0 0, ⟨⟨by omega, by omega, by omega, rfl, by omega, by omega, hsz⟩, ⟨D.v.bk, D.v.ty, ownR_nil _ _, ownR_nil _ _⟩, A1, log_nil L, blk_below tD D.bw, ownR_nil _ _, (fun j hj => by cases hj), gx_refl _ _⟩, Nat.zero_le _⟩ hA hg (blk_below lD D.bw) (readR_below (readR_below hr bD) D.bw) ⟨by omega, by omega, by omega⟩ (fun j hj => ?_)
    have := hne j hj
    omega))
  rw [hlv] at hwD
  have HWD := Lib.hid hwD
  have HSD := Lib.hid hszD
  have HBD := Lib.hid bD
  have HBB := Lib.hid hb
  have HGL := Lib.hid hgl
  have HTD := Lib.hid tD
  clear H hr hA hg hne hwD hszD bD lD tD HD hb hgl
  unfold tp at HDO ⊢
  go_enter Try.func23, Try.ntmps23
  go_wp2_with fail
  rw [← HWD.out]
  refine HDO.out.mono ?_
  rintro e w2 ⟨n, x, M, w', rfl, A2, G2, G3, hsz, _, hdn, hM, tv, T1, own⟩
  have tv2 : w2.cell? ⟨w.heap.size + 1, 0, none⟩ = some tv := (blk1 (blk_gx T1 G3 (by have := HSD.out; have := HGL.out; omega))).1
  have hnon : ∀ j, tv.ownBlock = some j → ¬ (j = g ∨ (wD.heap.size ≤ j ∧ j < wD.heap.size + 5)) := fun j hj => by have := (ownR_lt own j hj).1; have := HSD.out; have := HGL.out; omega
  have own2 := ownR_gx own G3 hnon
  have HF : Hid (L3Ret w L A b g cap (.returned (.tuple #[.int .i64 n, .int .i64 x, tv])) w2) := by
    refine ⟨n, x, tv, rfl, hdn, ?_, ownR_read own2, fun j hj => by have := (ownR_lt own2 j hj).1; have := HSD.out; omega, gx_mono (gx_pre HBD.out G2) (fun j hj e => by rcases e with e | e; (exact e); (omega))⟩
    by_cases hx : x = 0
    · rw [if_pos hx] at A2 ⊢; rw [← hM hx]; exact A2
    · rw [if_neg hx] at A2 ⊢; exact A2
  have HFD : Hid (L3Ret w L A b g cap (.returned (.tuple #[.int .i64 n, .int .i64 x, tv])) w2.drew) := by
    obtain ⟨n', x', tv', e1, h1, h2, h3, h4, h5⟩ := HF.out
    exact ⟨n', x', tv', e1, h1, are_below h2 (b_drew (Below.refl _ _)), readR_drew h3, h4, gx_drew h5⟩
  clear A2 G2 G3 hsz hdn hM T1 own hnon own2
  go_wp2_with fail
  refine wp_region_held_drew (S := fun w' => w'.cell? ⟨w.heap.size + 1, 0, none⟩ = some tv ∧ w' = w2.drew) (by kernel_rfl) ⟨tv2, rfl⟩ (fun hHeld => ?_)
  (refine wpAnyH_take (i := 0) (v := ?_) rfl (by kernel_rfl) (by kernel_rfl) (by kernel_rfl) (fun _ _ _ h => h) (Or.inl ⟨by rfl, ?_⟩) hHeld ?_; rotate_left; (focus (intro w hSw; (try dsimp only at hSw); go_simp; try (with_reducible rfl))); (try simp only [Act.put, List.getElem_toArray, List.getElem_cons_succ, List.getElem_cons_zero, List.setIfInBounds_toArray, List.set_cons_zero, List.set_cons_succ]))
  (refine wpAnyH_take (i := 1) (v := ?_) rfl (by kernel_rfl) (by kernel_rfl) (by kernel_rfl) (fun _ _ _ h => h) (Or.inl ⟨by rfl, ?_⟩) hHeld ?_; rotate_left; (focus (intro w hSw; (try dsimp only at hSw); go_simp; try (with_reducible rfl))); (try simp only [Act.put, List.getElem_toArray, List.getElem_cons_succ, List.getElem_cons_zero, List.setIfInBounds_toArray, List.set_cons_zero, List.set_cons_succ]))
  (refine wpAnyH_take (i := 2) (v := ?_) rfl (by kernel_rfl) (by kernel_rfl) (by kernel_rfl) (fun _ _ _ h => h) (Or.inl ⟨by rfl, ?_⟩) hHeld ?_; rotate_left; (focus (intro w hSw; (try dsimp only at hSw); go_simp; try (with_reducible rfl))); (try simp only [Act.put, List.getElem_toArray, List.getElem_cons_succ, List.getElem_cons_zero, List.setIfInBounds_toArray, List.set_cons_zero, List.set_cons_succ]))
  (refine wpAnyH_take (i := 3) (v := ?_) rfl (by kernel_rfl) (by kernel_rfl) (by kernel_rfl) (fun _ _ _ h => h) (Or.inl ⟨by rfl, ?_⟩) hHeld ?_; rotate_left; (focus (intro w hSw; (try dsimp only at hSw); go_simp; try (with_reducible rfl))); (try simp only [Act.put, List.getElem_toArray, List.getElem_cons_succ, List.getElem_cons_zero, List.setIfInBounds_toArray, List.set_cons_zero, List.set_cons_succ]))
  (refine wpAnyH_take (i := 4) (v := ?_) rfl (by kernel_rfl) (by kernel_rfl) (by kernel_rfl) (fun _ _ _ h => h) (Or.inl ⟨by rfl, ?_⟩) hHeld ?_; rotate_left; (focus (intro w hSw; (try dsimp only at hSw); go_simp; try (with_reducible rfl))); (try simp only [Act.put, List.getElem_toArray, List.getElem_cons_succ, List.getElem_cons_zero, List.setIfInBounds_toArray, List.set_cons_zero, List.set_cons_succ]))
  (refine wpAnyH_take (i := 5) (v := ?_) rfl (by kernel_rfl) (by kernel_rfl) (by kernel_rfl) (fun _ _ _ h => h) (Or.inl ⟨by rfl, ?_⟩) hHeld ?_; rotate_left; (focus (intro w hSw; (try dsimp only at hSw); go_simp; try (with_reducible rfl))); (try simp only [Act.put, List.getElem_toArray, List.getElem_cons_succ, List.getElem_cons_zero, List.setIfInBounds_toArray, List.set_cons_zero, List.set_cons_succ]))
  refine wpAnyH_done (by kernel_rfl) ?_ _
  go_wp2_with fail
  exact bodyPost_ret (v := .tuple #[.int .i64 n, .int .i64 x, tv]) (by simp [results, Try.results23, go_sem]) rfl HFD.out
set_option maxHeartbeats 1000000 in
theorem aw3one_any {w w1 : World} {b g cap : Nat} {L : List Int} (D : DoSt w w1 b) (H : AreAt w1 b g cap L) (hb : b < w.heap.size) (hg : g < w.heap.size) (hl : L.length = 256) : Calls Try.prog 71 #[tp (w.heap.size + 2)] w1 (FDone L b g cap (fun _ => False) w.heap.size w1 (fun n x M w' => n = 1 ∧ x = 3)) := by
  have hsz := D.sz
  have e0 : wordE L.length 0 = 0 := by rw [hl]; decide
  have V0 : ViewAt w1 (w.heap.size + 2) (tp b) 0 (.slice none 0 0) (.slice none 0 0) (w.heap.size + 5) [] [] := ⟨D.v.bk, D.v.ty, ownR_nil _ _, ownR_nil _ _⟩
  have HS := Lib.hid (vset_ok H V0 (by omega) (by omega) (by omega) (by omega) (by decide) (by decide) (by decide) (by decide) 0 5 e0 (by decide) (by decide))
  have HL := Lib.hid (log_set (log_nil L) H.by_ e0 (x := 5))
  have HLN := Lib.hid hl
  have HN : Hid (b < w.heap.size ∧ g < w.heap.size ∧ w1.heap.size = w.heap.size + 5) := ⟨hb, hg, hsz⟩
  clear D H hb hg hl hsz e0 V0
  unfold tp at HS ⊢
  go_enter Try.func71, Try.ntmps71
  go_wp2_with fail
  refine HS.out.mono ?_
  rintro e w2 ⟨rfl, ov, wv, V2, A2, G2, _⟩
  have hne : wordE (setW L 0 5).length 256 ≠ 0 := by rw [setW_length, HLN.out]; decide
  have e3 : wordE (setW L 0 5).length 256 = 3 := by rw [setW_length, HLN.out]; decide
  have HB := Lib.hid (vset_bad A2 V2 256 1 hne)
  rw [e3] at HB
  have HV2 := Lib.hid V2
  have HA2 := Lib.hid A2
  have HG2 := Lib.hid G2
  clear V2 A2 G2 hne e3
  unfold tp at HB
  go_wp2_with fail
  refine HB.out.mono ?_
  rintro e w3 ⟨ht, rfl⟩
  have HT := Lib.hid ht
  unfold Trapped at ht
  subst ht
  go_wp2_with fail
  refine ⟨rfl, 1, 3, _, _, _, ov, wv, Or.inr ⟨by decide, HT.out⟩, by decide, view_mono HV2.out (by omega), HA2.out, HL.out, by simp, gx_mono HG2.out (fun j hj e => ?_), rfl, rfl⟩
  rcases e with e | e | e | e
  · exact Or.inl e
  · exact Or.inr (Or.inl e)
  · cases e
  · cases e
theorem getW_zero (k : Nat) : getW (List.replicate 256 0) k = 0 := by
  unfold getW
  rw [List.drop_replicate, List.take_replicate]
  generalize min 8 (256 - k) = m
  induction m with
  | zero => rfl
  | succ m ih => rw [List.replicate_succ]; show (0 : Int) + 256 * getL (List.replicate m 0) = 0; rw [ih]; rfl
set_option maxHeartbeats 1000000 in
theorem awake3_any (w : World) : Calls Try.prog 28 #[] w fun e w' => e = .returned (.bool true) ∧ Below w.heap.size w w' := by
  have HN := Lib.hid (anew_any 1 w)
  have e1 : 256 * pagesN 1 = 256 := by decide
  rw [e1] at HN
  clear e1
  go_enter Try.func28, Try.ntmps28
  go_wp2_with fail
  refine HN.out.mono ?_
  rintro e w1 ⟨b, g, cap, rfl, A1, hb, hg, hb1⟩
  have l1 := A1.hd.1
  have l2 := A1.rw.1
  have HDO := Lib.hid (ado0 A1 71 (fun _ => False) (fun args w => by kernel_rfl) (fun j e => e.elim) _ (fun w2 D A2 => aw3one_any D A2 l1 l2 List.length_replicate))
  have HB1 := Lib.hid hb1
  have HH : Hid (w.heap.size ≤ b ∧ w.heap.size ≤ g) := ⟨hb, hg⟩
  clear A1 hb1 hb hg
  unfold tp at HDO ⊢
  go_wp2_with fail
  refine HDO.out.mono ?_
  rintro e w2 ⟨n, x, M, w', rfl, A2, G2, _, _, _, hn, hx⟩
  subst hx; subst hn
  rw [if_neg (by decide)] at A2
  have HB2 : Hid (Below w.heap.size w w2) := b_gx HB1.out G2 (fun j e => by rcases e with e | e; (have := HH.out.2; omega); (exact e.elim))
  have hw := aword_any A2 0
  have e0 : wordE (List.replicate 256 (0 : Int)).length 0 = 0 := by rw [List.length_replicate]; decide
  rw [e0, if_pos rfl, show getW (List.replicate 256 0) (0 : Int).toNat = 0 from getW_zero 0] at hw
  have HW := Lib.hid hw
  have HLE := Lib.hid (alen_any A2)
  clear A2 G2 hw e0
  unfold tp at HW HLE
  rw [List.length_replicate] at HLE
  have e1 : ((1 : Nat) : Int) = 1 := rfl
  rw [e1]
  go_wp2_with fail
  refine HW.out.mono ?_
  rintro e w3 ⟨rfl, rfl⟩
  go_wp2_with fail
  refine HLE.out.mono ?_
  rintro e w3 ⟨rfl, rfl⟩
  go_wp2_with fail
  go_ret
  exact ⟨rfl, HB2.out⟩
end Go.Proofs.Ytgbbnmjfkhconaa
