/- Layer 7: a slab in memory; the contracts of base, join, State, must, canary, stands. Conditions: those stated. -/
import Derived.Test.YtgbbnmjfkhconaaAre3
import Derived.Test.YtgbbnmjfkhconaaBit1
import Derived.Test.YtgbbnmjfkhconaaClass
import Derived.Test.YtgbbnmjfkhconaaLinkS
import Derived.Test.YtgbbnmjfkhconaaHeldF
import Derived.Deep.DeepCutAuto
namespace Go.Proofs.Ytgbbnmjfkhconaa
open Go.RowKit
set_option linter.unusedVariables false
set_option linter.unusedSimpArgs false
attribute [local go_sem] over_cell over_frozen
/-- Where a slab lies: its own block, its arena's two, its rows' two each. -/
structure SlB where
  s : Nat
  ab : Nat
  ag : Nat
  ac : Nat
  lb : Nat
  lg : Nat
  lc : Nat
  hb : Nat
  hg : Nat
  hc : Nat
/-- What it holds. -/
structure SlM where
  key : Int
  pg : Int
  cl : Int
  ow : Int
  fst : Int
  L : List Int
  ll : List Bool
  hl : List Bool
structure SlAt (w : World) (b : SlB) (m : SlM) : Prop where
  hd : Blk w b.s [tp b.ab, .int .u64 m.key, .int .i64 m.pg, .int .i64 m.cl, .int .i64 m.ow, sp b.lb, sp b.hb, .int .i64 m.fst]
  ar : AreAt w b.ab b.ag b.ac m.L
  li : ∃ W, BitAt w b.lb b.lg b.lc W m.ll
  he : ∃ W, BitAt w b.hb b.hg b.hc W m.hl
  ap : [b.s, b.ab, b.ag, b.lb, b.lg, b.hb, b.hg].Nodup
  k0 : 0 ≤ m.key
  k1 : m.key < 18446744073709551616
  f0 : -1 ≤ m.fst
  f1 : m.fst ≤ 65536
  nl : m.ll.length = (slotsI m.cl).toNat
  nh : m.hl.length = (slotsI m.cl).toNat
variable {w w' : World} {b : SlB} {m : SlM}
theorem sl_ne (h : SlAt w b m) : ((b.s ≠ b.ab ∧ b.s ≠ b.ag) ∧ (b.s ≠ b.lb ∧ b.s ≠ b.lg) ∧ (b.s ≠ b.hb ∧ b.s ≠ b.hg)) ∧ ((b.ab ≠ b.lg ∧ b.ab ≠ b.hg) ∧ (b.ag ≠ b.lb ∧ b.ag ≠ b.lg) ∧ (b.ag ≠ b.hb ∧ b.ag ≠ b.hg)) ∧ ((b.lb ≠ b.hg ∧ b.lg ≠ b.hb) ∧ b.lg ≠ b.hg) := by
  have z := h.ap
  simp only [List.nodup_cons, List.mem_cons, List.not_mem_nil, or_false, not_or] at z
  obtain ⟨⟨a1, a2, a3, a4, a5, a6⟩, ⟨c1, c2, c3, c4, c5⟩, ⟨d1, d2, d3, d4⟩, ⟨e1, e2, e3⟩, ⟨f1, f2⟩, _⟩ := z
  exact ⟨⟨⟨a1, a2⟩, ⟨a3, a4⟩, a5, a6⟩, ⟨⟨c3, c5⟩, ⟨d1, d2⟩, d3, d4⟩, ⟨e3, f1⟩, f2⟩
theorem sl_below (h : SlAt w b m) (hb : Below w.heap.size w w') : SlAt w' b m := by
  obtain ⟨W1, l⟩ := h.li
  obtain ⟨W2, k⟩ := h.he
  exact ⟨blk_below h.hd hb, are_below h.ar hb, ⟨W1, bit_below l hb⟩, ⟨W2, bit_below k hb⟩, h.ap, h.k0, h.k1, h.f0, h.f1, h.nl, h.nh⟩
/-- The arena's bytes turn. -/
theorem sl_arena (h : SlAt w b m) {L' : List Int} (ha : AreAt w' b.ab b.ag b.ac L') (hg : w.grownBy w' (some b.ag)) : SlAt w' b { m with L := L' } := by
  obtain ⟨W1, l⟩ := h.li
  obtain ⟨W2, k⟩ := h.he
  obtain ⟨⟨⟨a1, a2⟩, _, _⟩, ⟨_, ⟨c1, c2⟩, d1, d2⟩, _⟩ := sl_ne h
  have q : ∀ j, j ≠ b.ag → some j ≠ some b.ag := fun j hj e => hj (by injection e)
  exact ⟨blk_grown h.hd hg (q _ a2), ha, ⟨W1, bit_grown l hg (q _ (Ne.symm c1)) (q _ (Ne.symm c2))⟩, ⟨W2, bit_grown k hg (q _ (Ne.symm d1)) (q _ (Ne.symm d2))⟩, h.ap, h.k0, h.k1, h.f0, h.f1, h.nl, h.nh⟩
/-- The live ones turn. -/
theorem sl_live (h : SlAt w b m) {W' : List Nat} {l' : List Bool} (hl : BitAt w' b.lb b.lg b.lc W' l') (he : l'.length = m.ll.length) (hg : w.grownBy w' (some b.lg)) : SlAt w' b { m with ll := l' } := by
  obtain ⟨W2, k⟩ := h.he
  obtain ⟨⟨_, ⟨a3, a4⟩, _⟩, ⟨⟨c1, c2⟩, ⟨d1, d2⟩, _⟩, ⟨e1, e2⟩, e3⟩ := sl_ne h
  have q : ∀ j, j ≠ b.lg → some j ≠ some b.lg := fun j hj e => hj (by injection e)
  exact ⟨blk_grown h.hd hg (q _ a4), are_grown h.ar hg (q _ c1) (q _ d2), ⟨W', hl⟩, ⟨W2, bit_grown k hg (q _ (Ne.symm e2)) (q _ (Ne.symm e3))⟩, h.ap, h.k0, h.k1, h.f0, h.f1, by show l'.length = _; rw [he]; exact h.nl, h.nh⟩
/-- The held ones turn. -/
theorem sl_held (h : SlAt w b m) {W' : List Nat} {l' : List Bool} (hl : BitAt w' b.hb b.hg b.hc W' l') (he : l'.length = m.hl.length) (hg : w.grownBy w' (some b.hg)) : SlAt w' b { m with hl := l' } := by
  obtain ⟨W1, l⟩ := h.li
  obtain ⟨⟨_, _, ⟨a5, a6⟩⟩, ⟨⟨c1, c2⟩, _, ⟨d3, d4⟩⟩, ⟨e1, e2⟩, e3⟩ := sl_ne h
  have q : ∀ j, j ≠ b.hg → some j ≠ some b.hg := fun j hj e => hj (by injection e)
  exact ⟨blk_grown h.hd hg (q _ a6), are_grown h.ar hg (q _ c2) (q _ d4), ⟨W1, bit_grown l hg (q _ e1) (q _ e3)⟩, ⟨W', hl⟩, h.ap, h.k0, h.k1, h.f0, h.f1, h.nl, by show l'.length = _; rw [he]; exact h.nh⟩
/-- The first free one is another one. -/
theorem sl_first (h : SlAt w b m) {f : Int} (h0 : -1 ≤ f) (h1 : f ≤ 65536) : SlAt (w.setCell ⟨b.s, 7, none⟩ (.int .i64 f)) b { m with fst := f } := by
  obtain ⟨W1, l⟩ := h.li
  obtain ⟨W2, k⟩ := h.he
  obtain ⟨⟨⟨a1, a2⟩, ⟨a3, a4⟩, a5, a6⟩, _⟩ := sl_ne h
  have hg : w.grownBy (w.setCell ⟨b.s, 7, none⟩ (.int .i64 f)) (some b.s) := gb_set (gb_refl w (some b.s)) 7 none _
  have q : ∀ j, b.s ≠ j → some j ≠ some b.s := fun j hj e => hj (by injection e with e; exact e.symm)
  exact ⟨blk_set h.hd 7 _, are_grown h.ar hg (q _ a1) (q _ a2), ⟨W1, bit_grown l hg (q _ a3) (q _ a4)⟩, ⟨W2, bit_grown k hg (q _ a5) (q _ a6)⟩, h.ap, h.k0, h.k1, h0, h1, h.nl, h.nh⟩
/-- The cells of its own block. -/
theorem sl_cells (h : SlAt w b m) : ((w.cell? ⟨b.s, 0, none⟩ = some (tp b.ab) ∧ w.cell? ⟨b.s, 1, none⟩ = some (.int .u64 m.key)) ∧ (w.cell? ⟨b.s, 2, none⟩ = some (.int .i64 m.pg) ∧ w.cell? ⟨b.s, 3, none⟩ = some (.int .i64 m.cl))) ∧ ((w.cell? ⟨b.s, 5, none⟩ = some (sp b.lb) ∧ w.cell? ⟨b.s, 6, none⟩ = some (sp b.hb)) ∧ w.cell? ⟨b.s, 7, none⟩ = some (.int .i64 m.fst)) := by
  have z := h.hd.2.1
  exact ⟨⟨⟨by simpa using z 0 (by simp), by simpa using z 1 (by simp)⟩, by simpa using z 2 (by simp), by simpa using z 3 (by simp)⟩, ⟨by simpa using z 5 (by simp), by simpa using z 6 (by simp)⟩, by simpa using z 7 (by simp)⟩
theorem baseI_bd (p c k : Int) : -1 ≤ baseI p c k ∧ baseI p c k ≤ 65536 := by
  unfold baseI
  split
  · rename_i h
    obtain ⟨h1, h2, h3, h4⟩ := h
    rcases class_cases c with rfl | rfl | rfl | rfl | ⟨_, _, hs, hn, _⟩
    · simp [slotsI, sizeI] at h4 ⊢; omega
    · simp [slotsI, sizeI] at h4 ⊢; omega
    · simp [slotsI, sizeI] at h4 ⊢; omega
    · simp [slotsI, sizeI] at h4 ⊢; omega
    · rw [hn] at h4; omega
  · omega
set_option maxHeartbeats 1000000 in
theorem sbase_any (h : SlAt w b m) (k : Int) : Calls Try.prog 94 #[sp b.s, .int .i64 k] w fun e w' => e = .returned (.int .i64 (baseI m.pg m.cl k)) ∧ Below w.heap.size w w' := by
  have HC : Hid (∀ w', Below w.heap.size w w' → w'.cell? ⟨b.s, 2, none⟩ = some (.int .i64 m.pg) ∧ w'.cell? ⟨b.s, 3, none⟩ = some (.int .i64 m.cl)) := Lib.hid (fun w' hb => (sl_cells (sl_below h hb)).1.2)
  unfold sp at *
  clear h
  go_enter Try.func94, Try.ntmps94
  go_upto_region 1 with fail
  refine wp_region_held_drew (S := fun w' => w'.cell? ⟨b.s, 2, none⟩ = some (.int .i64 m.pg) ∧ w'.cell? ⟨b.s, 3, none⟩ = some (.int .i64 m.cl)) (by kernel_rfl) (HC.out _ (b_drew (Below.refl _ _))) (fun hHeld => ?_)
  refine atI 0 ?_
  iterate 9 (refine takeN (v := ?_) rfl (by rfl) ?_ hHeld ?_; rotate_left; (focus (intro w hSw; (try dsimp only at hSw); go_simp; try (with_reducible rfl))); (try simp only [Act.put, Nat.reduceAdd, List.getElem_toArray, List.getElem_cons_succ, List.getElem_cons_zero, List.setIfInBounds_toArray, List.set_cons_zero, List.set_cons_succ]))
  refine atIo ?_
  refine wpAnyH_ready (rs := [9]) (by kernel_rfl) (by simp) (AllReadyH.cons rfl (fun K hK => ?_) AllReadyH.nil)
  go_simp
  refine (base_any _ _ _ _).mono ?_
  rintro e w1 ⟨rfl, rfl⟩
  refine hK.out _ _ (HC.out _ (b_drew (Below.refl _ _))) (fun hHeld => ?_)
  clear hK K
  (try simp only [Act.put, List.getElem_toArray, List.getElem_cons_succ, List.getElem_cons_zero, List.setIfInBounds_toArray, List.set_cons_zero, List.set_cons_succ])
  (refine wpAnyH_take (i := 10) (v := ?_) rfl (by kernel_rfl) (by kernel_rfl) (by kernel_rfl) (fun _ _ _ h => h) (Or.inl ⟨by rfl, ?_⟩) hHeld ?_; rotate_left; (focus (intro w hSw; (try dsimp only at hSw); go_simp; try (with_reducible rfl))); (try simp only [Act.put, List.getElem_toArray, List.getElem_cons_succ, List.getElem_cons_zero, List.setIfInBounds_toArray, List.set_cons_zero, List.set_cons_succ]))
  refine wpAnyH_done (by kernel_rfl) ?_ _
  go_wp2_with fail
  go_ret
  exact ⟨rfl, b_drew (Below.refl _ _)⟩
/-- What a slot is. -/
def stI (m : SlM) (k : Int) : Int := if 0 ≤ k ∧ k < m.ll.length then (if hasL m.ll k = true then 1 else if hasL m.hl k = true then 2 else 0) else -1
set_option maxHeartbeats 1000000 in
theorem sstate_any (h : SlAt w b m) (k : Int) : Calls Try.prog 58 #[sp b.s, .int .i64 k] w fun e w' => e = .returned (.int .i64 (stI m k)) ∧ w = w' := by
  obtain ⟨_, ⟨c5, c6⟩, _⟩ := sl_cells h
  obtain ⟨W1, l⟩ := h.li
  obtain ⟨W2, q⟩ := h.he
  have HL := Lib.hid (blen_any l)
  have H1 := Lib.hid (bhas_any l k)
  have H2 := Lib.hid (bhas_any q k)
  have hz := h.hd.1
  have hn := l.nb
  unfold sp at *
  clear h l q
  by_cases k0 : k < 0
  · have HE : Hid (stI m k = -1) := Lib.hid (by unfold stI; rw [if_neg (by omega)])
    go_enter Try.func58, Try.ntmps58
    go_wp2_with fail
    go_ret
    exact ⟨by rw [HE.out]; rfl, rfl⟩
  by_cases k1 : k < m.ll.length
  · have k2 : ¬ (k ≥ (m.ll.length : Int)) := by omega
    cases e1 : hasL m.ll k with
    | true =>
      have HE : Hid (stI m k = 1) := Lib.hid (by unfold stI; rw [if_pos (by omega), if_pos e1])
      rw [e1] at H1
      clear e1
      go_enter Try.func58, Try.ntmps58
      go_wp2_with fail
      refine HL.out.mono ?_
      rintro e w1 ⟨rfl, rfl⟩
      go_wp2_with fail
      refine H1.out.mono ?_
      rintro e w1 ⟨rfl, rfl⟩
      go_wp2_with fail
      go_ret
      exact ⟨by rw [HE.out]; rfl, rfl⟩
    | false =>
      rw [e1] at H1
      cases e2 : hasL m.hl k with
      | true =>
        have HE : Hid (stI m k = 2) := Lib.hid (by unfold stI; rw [if_pos (by omega), if_neg (by rw [e1]; decide), if_pos e2])
        rw [e2] at H2
        clear e1 e2
        go_enter Try.func58, Try.ntmps58
        go_wp2_with fail
        refine HL.out.mono ?_
        rintro e w1 ⟨rfl, rfl⟩
        go_wp2_with fail
        refine H1.out.mono ?_
        rintro e w1 ⟨rfl, rfl⟩
        go_wp2_with fail
        refine H2.out.mono ?_
        rintro e w1 ⟨rfl, rfl⟩
        go_wp2_with fail
        go_ret
        exact ⟨by rw [HE.out]; rfl, rfl⟩
      | false =>
        have HE : Hid (stI m k = 0) := Lib.hid (by unfold stI; rw [if_pos (by omega), if_neg (by rw [e1]; decide), if_neg (by rw [e2]; decide)])
        rw [e2] at H2
        clear e1 e2
        go_enter Try.func58, Try.ntmps58
        go_wp2_with fail
        refine HL.out.mono ?_
        rintro e w1 ⟨rfl, rfl⟩
        go_wp2_with fail
        refine H1.out.mono ?_
        rintro e w1 ⟨rfl, rfl⟩
        go_wp2_with fail
        refine H2.out.mono ?_
        rintro e w1 ⟨rfl, rfl⟩
        go_wp2_with fail
        go_ret
        exact ⟨by rw [HE.out]; rfl, rfl⟩
  · have k2 : k ≥ (m.ll.length : Int) := by omega
    have HE : Hid (stI m k = -1) := Lib.hid (by unfold stI; rw [if_neg (by omega)])
    go_enter Try.func58, Try.ntmps58
    go_wp2_with fail
    refine HL.out.mono ?_
    rintro e w1 ⟨rfl, rfl⟩
    go_wp2_with fail
    go_ret
    exact ⟨by rw [HE.out]; rfl, rfl⟩
theorem stI_cases (m : SlM) (k : Int) : stI m k = -1 ∨ stI m k = 0 ∨ stI m k = 1 ∨ stI m k = 2 := by
  unfold stI
  split
  · split
    · exact Or.inr (Or.inr (Or.inl rfl))
    · split
      · exact Or.inr (Or.inr (Or.inr rfl))
      · exact Or.inr (Or.inl rfl)
  · exact Or.inl rfl
/-- Is a slot of a state? -/
def mustE (m : SlM) (k s : Int) : Int := if stI m k = -1 then 3 else if stI m k = s then 0 else 8
theorem smust_any (h : SlAt w b m) (k s : Int) : Calls Try.prog 92 #[sp b.s, .int .i64 k, .int .i64 s] w fun e w' => e = .returned (.int .i64 (mustE m k s)) ∧ w = w' := by
  have HS := Lib.hid (sstate_any h k)
  unfold sp at *
  clear h
  by_cases e1 : stI m k = -1
  · have HE : Hid (mustE m k s = 3) := Lib.hid (by unfold mustE; rw [if_pos e1])
    rw [e1] at HS
    clear e1
    go_enter Try.func92, Try.ntmps92
    go_wp2_with fail
    refine HS.out.mono ?_
    rintro e w1 ⟨rfl, rfl⟩
    go_wp2_with fail
    go_ret
    exact ⟨by rw [HE.out]; rfl, rfl⟩
  · have n1 : (stI m k == -1) = false := beq_false_of_ne e1
    by_cases e2 : stI m k = s
    · have HE : Hid (mustE m k s = 0) := Lib.hid (by unfold mustE; rw [if_neg e1, if_pos e2])
      have n2 : (stI m k != s) = false := by simp [e2]
      generalize stI m k = t at *
      clear e1 e2
      go_enter Try.func92, Try.ntmps92
      go_wp2_with fail
      refine HS.out.mono ?_
      rintro e w1 ⟨rfl, rfl⟩
      go_wp2_with fail
      refine HS.out.mono ?_
      rintro e w1 ⟨rfl, rfl⟩
      go_wp2_with fail
      go_ret
      exact ⟨by rw [HE.out]; rfl, rfl⟩
    · have HE : Hid (mustE m k s = 8) := Lib.hid (by unfold mustE; rw [if_neg e1, if_neg e2])
      have n2 : (stI m k != s) = true := by simp [e2]
      generalize stI m k = t at *
      clear e1 e2
      go_enter Try.func92, Try.ntmps92
      go_wp2_with fail
      refine HS.out.mono ?_
      rintro e w1 ⟨rfl, rfl⟩
      go_wp2_with fail
      refine HS.out.mono ?_
      rintro e w1 ⟨rfl, rfl⟩
      go_wp2_with fail
      go_ret
      exact ⟨by rw [HE.out]; rfl, rfl⟩
/-- A slot's canary: where, and what. -/
def canAt (m : SlM) (k : Int) : Int := baseI m.pg m.cl k + roomI m.cl
theorem roomI_bd (c : Int) : 0 ≤ roomI c ∧ roomI c ≤ 120 := by
  rcases class_cases c with rfl | rfl | rfl | rfl | ⟨_, _, _, _, hr⟩
  · decide
  · decide
  · decide
  · decide
  · rw [hr]; decide
set_option maxHeartbeats 1000000 in
theorem scanary_any (h : SlAt w b m) (k : Int) : Calls Try.prog 90 #[sp b.s, .int .i64 k] w fun e w' => e = .returned (.tuple #[.int .i64 (canAt m k), .int .u64 (canI m.key (baseI m.pg m.cl k))]) ∧ Below w.heap.size w w' := by
  have HB := Lib.hid (sbase_any h k)
  have HC : Hid (∀ w', Below w.heap.size w w' → w'.cell? ⟨b.s, 1, none⟩ = some (.int .u64 m.key) ∧ w'.cell? ⟨b.s, 3, none⟩ = some (.int .i64 m.cl)) := Lib.hid (fun w' hb => ⟨(sl_cells (sl_below h hb)).1.1.2, (sl_cells (sl_below h hb)).1.2.2⟩)
  have HK := Lib.hid (fun a w => canary_any m.key a h.k0 h.k1 w)
  obtain ⟨q1, q2⟩ := baseI_bd m.pg m.cl k
  obtain ⟨r1, r2⟩ := roomI_bd m.cl
  have HW : IntKind.i64.wrap (baseI m.pg m.cl k + roomI m.cl) = canAt m k := by rw [IntKind.wrap_i64]; unfold canAt; omega
  generalize canAt m k = ca at *
  generalize baseI m.pg m.cl k = a at *
  unfold sp at *
  clear h
  go_enter Try.func90, Try.ntmps90
  go_wp2_with fail
  refine HB.out.mono ?_
  rintro e w1 ⟨rfl, hb1⟩
  have HB1 := Lib.hid hb1
  clear hb1
  go_upto_region 2 with fail
  refine wp_region_held_drew (S := fun w' => w'.cell? ⟨b.s, 1, none⟩ = some (.int .u64 m.key) ∧ w'.cell? ⟨b.s, 3, none⟩ = some (.int .i64 m.cl)) (by kernel_rfl) (HC.out _ (b_drew HB1.out)) (fun hHeld => ?_)
  refine atI 0 ?_
  iterate 5 (refine takeN (v := ?_) rfl (by rfl) ?_ hHeld ?_; rotate_left; (focus (intro w hSw; (try dsimp only at hSw); go_simp; try (with_reducible rfl))); (try simp only [Act.put, Nat.reduceAdd, List.getElem_toArray, List.getElem_cons_succ, List.getElem_cons_zero, List.setIfInBounds_toArray, List.set_cons_zero, List.set_cons_succ]))
  refine atIo ?_
  refine atI 7 ?_
  iterate 5 (refine takeN (v := ?_) rfl (by rfl) ?_ hHeld ?_; rotate_left; (focus (intro w hSw; (try dsimp only at hSw); go_simp; try (with_reducible rfl))); (try simp only [Act.put, Nat.reduceAdd, List.getElem_toArray, List.getElem_cons_succ, List.getElem_cons_zero, List.setIfInBounds_toArray, List.set_cons_zero, List.set_cons_succ]))
  refine atIo ?_
  refine wpAnyH_ready (rs := [5]) (by kernel_rfl) (by simp) (AllReadyH.cons rfl (fun K hK => ?_) AllReadyH.nil)
  go_simp
  refine (room_any _ _).mono ?_
  rintro e w2 ⟨rfl, rfl⟩
  refine hK.out _ _ (HC.out _ (b_drew HB1.out)) (fun hHeld => ?_)
  clear hK K
  (try simp only [Act.put, List.getElem_toArray, List.getElem_cons_succ, List.getElem_cons_zero, List.setIfInBounds_toArray, List.set_cons_zero, List.set_cons_succ])
  (refine wpAnyH_take (i := 6) (v := ?_) rfl (by kernel_rfl) (by kernel_rfl) (by kernel_rfl) (fun _ _ _ h => h) (Or.inl ⟨by rfl, ?_⟩) hHeld ?_; rotate_left; (focus (intro w hSw; (try dsimp only at hSw); go_simp; try (with_reducible rfl))); (try simp only [Act.put, List.getElem_toArray, List.getElem_cons_succ, List.getElem_cons_zero, List.setIfInBounds_toArray, List.set_cons_zero, List.set_cons_succ]))
  refine wpAnyH_ready (rs := [12]) (by kernel_rfl) (by simp) (AllReadyH.cons rfl (fun K hK => ?_) AllReadyH.nil)
  go_simp
  refine (HK.out _ _).mono ?_
  rintro e w3 ⟨rfl, hb3⟩
  have HB3 := Lib.hid (b_call (b_drew HB1.out) hb3)
  clear hb3
  refine hK.out _ _ (HC.out _ HB3.out) (fun hHeld => ?_)
  clear hK K
  (try simp only [Act.put, List.getElem_toArray, List.getElem_cons_succ, List.getElem_cons_zero, List.setIfInBounds_toArray, List.set_cons_zero, List.set_cons_succ])
  refine atI 13 ?_
  iterate 2 (refine takeN (v := ?_) rfl (by rfl) ?_ hHeld ?_; rotate_left; (focus (intro w hSw; (try dsimp only at hSw); go_simp; try (with_reducible rfl))); (try simp only [Act.put, Nat.reduceAdd, List.getElem_toArray, List.getElem_cons_succ, List.getElem_cons_zero, List.setIfInBounds_toArray, List.set_cons_zero, List.set_cons_succ]))
  refine atIo ?_
  refine wpAnyH_done (by kernel_rfl) ?_ _
  go_wp2_with fail
  exact bodyPost_ret (v := .tuple #[.int .i64 ca, .int .u64 (canI m.key a)]) (by simp [results, Try.results90, go_sem]) rfl ⟨rfl, HB3.out⟩
/-- Does a slot's canary stand? -/
def standsB (m : SlM) (k : Int) : Bool := decide (wordE m.L.length (canAt m k) = 0) && decide (getW m.L (canAt m k).toNat = canI m.key (baseI m.pg m.cl k))
set_option maxHeartbeats 1000000 in
theorem sstands_any (h : SlAt w b m) (k : Int) : Calls Try.prog 93 #[sp b.s, .int .i64 k] w fun e w' => e = .returned (.bool (standsB m k)) ∧ Below w.heap.size w w' := by
  have HN := Lib.hid (scanary_any h k)
  have HC : Hid (∀ w', Below w.heap.size w w' → w'.cell? ⟨b.s, 0, none⟩ = some (tp b.ab)) := Lib.hid (fun w' hb => (sl_cells (sl_below h hb)).1.1.1)
  have HW := Lib.hid (fun w' (hb : Below w.heap.size w w') => aword_any (are_below h.ar hb) (canAt m k))
  have hz := h.hd.1
  obtain ⟨B, hB⟩ : ∃ B, B = standsB m k := ⟨_, rfl⟩
  have HB := Lib.hid hB
  rw [← hB]
  clear hB
  unfold sp tp at *
  clear h
  rcases wordE_cases m.L.length (canAt m k) with ⟨q, _⟩ | ⟨q, _, _, _⟩ | ⟨q, _⟩
  · have HV : Hid (B = false) := Lib.hid (by rw [HB.out]; unfold standsB; rw [decide_eq_false (by rw [q]; decide)]; rfl)
    rw [q] at HW
    clear q
    go_enter Try.func93, Try.ntmps93
    go_wp2_with fail
    refine HN.out.mono ?_
    rintro e w1 ⟨rfl, hb1⟩
    have c0 := HC.out w1 hb1
    have hz1 := Nat.lt_of_lt_of_le hz hb1.size
    have HB1 := Lib.hid hb1
    clear hb1
    go_wp2_with fail
    refine (HW.out w1 HB1.out).mono ?_
    rintro e w2 ⟨rfl, rfl⟩
    go_wp2_with fail
    go_ret
    exact ⟨by rw [HV.out]; rfl, HB1.out⟩
  · have HV : Hid (B = false) := Lib.hid (by rw [HB.out]; unfold standsB; rw [decide_eq_false (by rw [q]; decide)]; rfl)
    rw [q] at HW
    clear q
    go_enter Try.func93, Try.ntmps93
    go_wp2_with fail
    refine HN.out.mono ?_
    rintro e w1 ⟨rfl, hb1⟩
    have c0 := HC.out w1 hb1
    have hz1 := Nat.lt_of_lt_of_le hz hb1.size
    have HB1 := Lib.hid hb1
    clear hb1
    go_wp2_with fail
    refine (HW.out w1 HB1.out).mono ?_
    rintro e w2 ⟨rfl, rfl⟩
    go_wp2_with fail
    go_ret
    exact ⟨by rw [HV.out]; rfl, HB1.out⟩
  · have HV : Hid (B = decide (getW m.L (canAt m k).toNat = canI m.key (baseI m.pg m.cl k))) := Lib.hid (by rw [HB.out]; unfold standsB; rw [decide_eq_true q, Bool.true_and])
    rw [q] at HW
    clear q HB
    generalize canI m.key (baseI m.pg m.cl k) = cv at *
    generalize getW m.L (canAt m k).toNat = gv at *
    by_cases hq : gv = cv
    · have hq2 : (gv == cv) = true := by simp [hq]
      rw [decide_eq_true hq] at HV
      clear hq
      go_enter Try.func93, Try.ntmps93
      go_wp2_with fail
      refine HN.out.mono ?_
      rintro e w1 ⟨rfl, hb1⟩
      have c0 := HC.out w1 hb1
      have hz1 := Nat.lt_of_lt_of_le hz hb1.size
      have HB1 := Lib.hid hb1
      clear hb1
      go_wp2_with fail
      refine (HW.out w1 HB1.out).mono ?_
      rintro e w2 ⟨rfl, rfl⟩
      go_wp2_with fail
      go_ret
      exact ⟨by rw [HV.out]; rfl, HB1.out⟩
    · have hq2 : (gv == cv) = false := by simp [hq]
      rw [decide_eq_false hq] at HV
      clear hq
      go_enter Try.func93, Try.ntmps93
      go_wp2_with fail
      refine HN.out.mono ?_
      rintro e w1 ⟨rfl, hb1⟩
      have c0 := HC.out w1 hb1
      have hz1 := Nat.lt_of_lt_of_le hz hb1.size
      have HB1 := Lib.hid hb1
      clear hb1
      go_wp2_with fail
      refine (HW.out w1 HB1.out).mono ?_
      rintro e w2 ⟨rfl, rfl⟩
      go_wp2_with fail
      go_ret
      exact ⟨by rw [HV.out]; rfl, HB1.out⟩
set_option maxHeartbeats 2000000 in
theorem sjoin_any (h : SlAt w b m) (k : Int) : Calls Try.prog 95 #[sp b.s, .int .i64 k] w fun e w' => e = .returned (.tuple #[]) ∧ SlAt w' b { m with L := setW m.L (baseI m.pg m.cl k) (putI m.key (baseI m.pg m.cl k) m.fst), fst := baseI m.pg m.cl k } ∧ GrowX w w' (fun j => j = b.s ∨ j = b.ag) := by
  have HB := Lib.hid (sbase_any h k)
  have HH := Lib.hid h
  have HC : Hid (∀ w', Below w.heap.size w w' → (w'.cell? ⟨b.s, 0, none⟩ = some (tp b.ab) ∧ w'.cell? ⟨b.s, 1, none⟩ = some (.int .u64 m.key)) ∧ w'.cell? ⟨b.s, 7, none⟩ = some (.int .i64 m.fst)) := Lib.hid (fun w' hb => ⟨(sl_cells (sl_below h hb)).1.1, (sl_cells (sl_below h hb)).2.2⟩)
  obtain ⟨q1, q2⟩ := baseI_bd m.pg m.cl k
  have HQ := Lib.hid (And.intro q1 q2)
  have HF := Lib.hid (And.intro h.f0 h.f1)
  have HP := Lib.hid (fun w => put_any m.key (baseI m.pg m.cl k) m.fst h.k0 h.k1 (by omega) (by omega) (by have := h.f0; omega) (by have := h.f1; omega) w)
  obtain ⟨p1, p2⟩ := putI_bd m.key (baseI m.pg m.cl k) m.fst
  have HS := Lib.hid (fun w' (hb : Below w.heap.size w w') => asetw_any (are_below h.ar hb) (baseI m.pg m.cl k) (putI m.key (baseI m.pg m.cl k) m.fst) p1 p2)
  have HFIN : Hid (∀ w1 w2, Below w.heap.size w w1 → AreAt w2 b.ab b.ag b.ac (setW m.L (baseI m.pg m.cl k) (putI m.key (baseI m.pg m.cl k) m.fst)) → w1.grownBy w2 (some b.ag) → SlAt (w2.setCell ⟨b.s, 7, none⟩ (.int .i64 (baseI m.pg m.cl k))) b { m with L := setW m.L (baseI m.pg m.cl k) (putI m.key (baseI m.pg m.cl k) m.fst), fst := baseI m.pg m.cl k } ∧ GrowX w (w2.setCell ⟨b.s, 7, none⟩ (.int .i64 (baseI m.pg m.cl k))) (fun j => j = b.s ∨ j = b.ag)) := Lib.hid (fun w1 w2 hb ha hg => ⟨sl_first (sl_arena (sl_below h hb) ha hg) q1 q2, gx_set (X := fun j => j = b.s ∨ j = b.ag) (gx_pre hb (gx_gb hg (fun k hk => Or.inr (by injection hk with hk; exact hk.symm)))) (p := ⟨b.s, 7, none⟩) (Or.inr (Or.inl rfl)) _⟩)
  have hz := h.hd.1
  have HSA := Lib.hid (fun w1 w2 (hb : Below w.heap.size w w1) ha (hg : w1.grownBy w2 (some b.ag)) => sl_arena (sl_below h hb) (L' := setW m.L (baseI m.pg m.cl k) (putI m.key (baseI m.pg m.cl k) m.fst)) ha hg)
  generalize putI m.key (baseI m.pg m.cl k) m.fst = pv at *
  generalize baseI m.pg m.cl k = a at *
  unfold sp tp at *
  clear h HF HQ q1 q2 p1 p2
  go_enter Try.func95, Try.ntmps95
  go_wp2_with fail
  refine HB.out.mono ?_
  rintro e w1 ⟨rfl, hb1⟩
  have HB1 := Lib.hid hb1
  clear hb1
  go_upto_region 1 with fail
  refine wp_region_F (S := fun w' => (w'.cell? ⟨b.s, 0, none⟩ = some (.pointer (some ⟨b.ab, 0, none⟩)) ∧ w'.cell? ⟨b.s, 1, none⟩ = some (.int .u64 m.key)) ∧ w'.cell? ⟨b.s, 7, none⟩ = some (.int .i64 m.fst)) [15] (by kernel_rfl) (HC.out _ (b_drew HB1.out)) (fun hHeld => ?_)
  (refine wpAnyF_takeP (i := 0) (v := ?_) rfl (by kernel_rfl) (by kernel_rfl) (by kernel_rfl) (fun _ _ _ h => h) (Or.inl ⟨by rfl, ?_⟩) ?_; rotate_left; (focus (intro w hSw; (try dsimp only at hSw); go_simp; try (with_reducible rfl))); (try simp only [Act.put, List.getElem_toArray, List.getElem_cons_succ, List.getElem_cons_zero, List.setIfInBounds_toArray, List.set_cons_zero, List.set_cons_succ]))
  (refine wpAnyF_take (n := 40) (i := 1) (v := ?_) rfl (by kernel_rfl) (by kernel_rfl) (by kernel_rfl) (by kernel_rfl) (by kernel_rfl) (fun _ _ _ h => h) (Or.inl ⟨by rfl, ?_⟩) hHeld ?_; rotate_left; (focus (intro w hSw; (try dsimp only at hSw); go_simp; try (with_reducible rfl))); (try simp only [Act.put, List.getElem_toArray, List.getElem_cons_succ, List.getElem_cons_zero, List.setIfInBounds_toArray, List.set_cons_zero, List.set_cons_succ]))
  (refine wpAnyF_take (n := 40) (i := 2) (v := ?_) rfl (by kernel_rfl) (by kernel_rfl) (by kernel_rfl) (by kernel_rfl) (by kernel_rfl) (fun _ _ _ h => h) (Or.inl ⟨by rfl, ?_⟩) hHeld ?_; rotate_left; (focus (intro w hSw; (try dsimp only at hSw); go_simp; try (with_reducible rfl))); (try simp only [Act.put, List.getElem_toArray, List.getElem_cons_succ, List.getElem_cons_zero, List.setIfInBounds_toArray, List.set_cons_zero, List.set_cons_succ]))
  (refine wpAnyF_take (n := 40) (i := 3) (v := ?_) rfl (by kernel_rfl) (by kernel_rfl) (by kernel_rfl) (by kernel_rfl) (by kernel_rfl) (fun _ _ _ h => h) (Or.inl ⟨by rfl, ?_⟩) hHeld ?_; rotate_left; (focus (intro w hSw; (try dsimp only at hSw); go_simp; try (with_reducible rfl))); (try simp only [Act.put, List.getElem_toArray, List.getElem_cons_succ, List.getElem_cons_zero, List.setIfInBounds_toArray, List.set_cons_zero, List.set_cons_succ]))
  (refine wpAnyF_takeP (i := 4) (v := ?_) rfl (by kernel_rfl) (by kernel_rfl) (by kernel_rfl) (fun _ _ _ h => h) (Or.inl ⟨by rfl, ?_⟩) ?_; rotate_left; (focus (intro w hSw; (try dsimp only at hSw); go_simp; try (with_reducible rfl))); (try simp only [Act.put, List.getElem_toArray, List.getElem_cons_succ, List.getElem_cons_zero, List.setIfInBounds_toArray, List.set_cons_zero, List.set_cons_succ]))
  (refine wpAnyF_takeP (i := 5) (v := ?_) rfl (by kernel_rfl) (by kernel_rfl) (by kernel_rfl) (fun _ _ _ h => h) (Or.inl ⟨by rfl, ?_⟩) ?_; rotate_left; (focus (intro w hSw; (try dsimp only at hSw); go_simp; try (with_reducible rfl))); (try simp only [Act.put, List.getElem_toArray, List.getElem_cons_succ, List.getElem_cons_zero, List.setIfInBounds_toArray, List.set_cons_zero, List.set_cons_succ]))
  (refine wpAnyF_take (n := 40) (i := 6) (v := ?_) rfl (by kernel_rfl) (by kernel_rfl) (by kernel_rfl) (by kernel_rfl) (by kernel_rfl) (fun _ _ _ h => h) (Or.inl ⟨by rfl, ?_⟩) hHeld ?_; rotate_left; (focus (intro w hSw; (try dsimp only at hSw); go_simp; try (with_reducible rfl))); (try simp only [Act.put, List.getElem_toArray, List.getElem_cons_succ, List.getElem_cons_zero, List.setIfInBounds_toArray, List.set_cons_zero, List.set_cons_succ]))
  (refine wpAnyF_take (n := 40) (i := 7) (v := ?_) rfl (by kernel_rfl) (by kernel_rfl) (by kernel_rfl) (by kernel_rfl) (by kernel_rfl) (fun _ _ _ h => h) (Or.inl ⟨by rfl, ?_⟩) hHeld ?_; rotate_left; (focus (intro w hSw; (try dsimp only at hSw); go_simp; try (with_reducible rfl))); (try simp only [Act.put, List.getElem_toArray, List.getElem_cons_succ, List.getElem_cons_zero, List.setIfInBounds_toArray, List.set_cons_zero, List.set_cons_succ]))
  (refine wpAnyF_take (n := 40) (i := 8) (v := ?_) rfl (by kernel_rfl) (by kernel_rfl) (by kernel_rfl) (by kernel_rfl) (by kernel_rfl) (fun _ _ _ h => h) (Or.inl ⟨by rfl, ?_⟩) hHeld ?_; rotate_left; (focus (intro w hSw; (try dsimp only at hSw); go_simp; try (with_reducible rfl))); (try simp only [Act.put, List.getElem_toArray, List.getElem_cons_succ, List.getElem_cons_zero, List.setIfInBounds_toArray, List.set_cons_zero, List.set_cons_succ]))
  (refine wpAnyF_takeP (i := 9) (v := ?_) rfl (by kernel_rfl) (by kernel_rfl) (by kernel_rfl) (fun _ _ _ h => h) (Or.inl ⟨by rfl, ?_⟩) ?_; rotate_left; (focus (intro w hSw; (try dsimp only at hSw); go_simp; try (with_reducible rfl))); (try simp only [Act.put, List.getElem_toArray, List.getElem_cons_succ, List.getElem_cons_zero, List.setIfInBounds_toArray, List.set_cons_zero, List.set_cons_succ]))
  (refine wpAnyF_takeP (i := 10) (v := ?_) rfl (by kernel_rfl) (by kernel_rfl) (by kernel_rfl) (fun _ _ _ h => h) (Or.inl ⟨by rfl, ?_⟩) ?_; rotate_left; (focus (intro w hSw; (try dsimp only at hSw); go_simp; try (with_reducible rfl))); (try simp only [Act.put, List.getElem_toArray, List.getElem_cons_succ, List.getElem_cons_zero, List.setIfInBounds_toArray, List.set_cons_zero, List.set_cons_succ]))
  (refine wpAnyF_take (n := 40) (i := 11) (v := ?_) rfl (by kernel_rfl) (by kernel_rfl) (by kernel_rfl) (by kernel_rfl) (by kernel_rfl) (fun _ _ _ h => h) (Or.inl ⟨by rfl, ?_⟩) hHeld ?_; rotate_left; (focus (intro w hSw; (try dsimp only at hSw); go_simp; try (with_reducible rfl))); (try simp only [Act.put, List.getElem_toArray, List.getElem_cons_succ, List.getElem_cons_zero, List.setIfInBounds_toArray, List.set_cons_zero, List.set_cons_succ]))
  (refine wpAnyF_take (n := 40) (i := 12) (v := ?_) rfl (by kernel_rfl) (by kernel_rfl) (by kernel_rfl) (by kernel_rfl) (by kernel_rfl) (fun _ _ _ h => h) (Or.inl ⟨by rfl, ?_⟩) hHeld ?_; rotate_left; (focus (intro w hSw; (try dsimp only at hSw); go_simp; try (with_reducible rfl))); (try simp only [Act.put, List.getElem_toArray, List.getElem_cons_succ, List.getElem_cons_zero, List.setIfInBounds_toArray, List.set_cons_zero, List.set_cons_succ]))
  (refine wpAnyF_take (n := 40) (i := 13) (v := ?_) rfl (by kernel_rfl) (by kernel_rfl) (by kernel_rfl) (by kernel_rfl) (by kernel_rfl) (fun _ _ _ h => h) (Or.inl ⟨by rfl, ?_⟩) hHeld ?_; rotate_left; (focus (intro w hSw; (try dsimp only at hSw); go_simp; try (with_reducible rfl))); (try simp only [Act.put, List.getElem_toArray, List.getElem_cons_succ, List.getElem_cons_zero, List.setIfInBounds_toArray, List.set_cons_zero, List.set_cons_succ]))
  refine wpAnyF_ready (rs := [14]) (by kernel_rfl) (by simp) (AllReadyF.cons rfl (fun K hK => ?_) AllReadyF.nil)
  go_simp
  refine (HP.out _).mono ?_
  rintro e w2 ⟨rfl, hb2⟩
  have HB2 := Lib.hid (b_call (b_drew HB1.out) hb2)
  clear hb2
  refine hK.out _ _ (HC.out _ HB2.out) (fun hHeld => ?_)
  clear hK K
  (try simp only [Act.put, List.getElem_toArray, List.getElem_cons_succ, List.getElem_cons_zero, List.setIfInBounds_toArray, List.set_cons_zero, List.set_cons_succ])
  refine wpAnyF_ready (rs := [15]) (by kernel_rfl) (by simp) (AllReadyF.free rfl (by decide) (fun K hK => ?_) AllReadyF.nil)
  go_simp
  refine (HS.out _ HB2.out).mono ?_
  rintro e w3 ⟨rfl, ha3, hg3⟩
  have HA3 := Lib.hid ha3
  have HG3 := Lib.hid hg3
  clear ha3 hg3
  refine hK.out _ _ (trivial) (fun hHeld => ?_)
  clear hK K
  (try simp only [Act.put, List.getElem_toArray, List.getElem_cons_succ, List.getElem_cons_zero, List.setIfInBounds_toArray, List.set_cons_zero, List.set_cons_succ])
  refine wpAnyF_done (by kernel_rfl) ?_
  have X3 := (HSA.out _ _ HB2.out HA3.out HG3.out).hd
  have z7 := X3.2.1 7 (by simp)
  have zf := X3.2.2
  have zz := X3.1
  simp only [List.getElem_cons_succ, List.getElem_cons_zero] at z7
  clear X3
  go_wp2_with fail
  exact bodyPost_end (v := .tuple #[]) (by simp [results, Try.results95, go_sem]) rfl ⟨rfl, HFIN.out _ _ HB2.out HA3.out HG3.out⟩
end Go.Proofs.Ytgbbnmjfkhconaa
