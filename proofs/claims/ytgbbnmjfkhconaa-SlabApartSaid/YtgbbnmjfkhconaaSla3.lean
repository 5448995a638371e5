/- Layer 7: the contracts of Take, Drop, Give, of a slab that is whole. Conditions: those stated. -/
import Derived.Test.YtgbbnmjfkhconaaSla2
namespace Go.Proofs.Ytgbbnmjfkhconaa
open Go.RowKit
set_option linter.unusedVariables false
set_option linter.unusedSimpArgs false
attribute [local go_sem] over_cell over_frozen
variable {w w' : World} {b : SlB} {m : SlM} {P Z N : Nat} {fl : List Nat}
/-- What of a slab may turn. -/
def slX (b : SlB) (j : Nat) : Prop := j = b.s ∨ j = b.ag ∨ j = b.lg ∨ j = b.hg
theorem gx_then {X : Nat → Prop} {w1 w2 : World} (h : GrowX w w1 X) (h' : GrowX w1 w2 X) : GrowX w w2 X := gx_trans h h' (fun _ _ q => q) (fun _ _ q => q)
theorem gxA {w1 w2 : World} (h : GrowX w w1 (slX b)) (hg : w1.grownBy w2 (some b.ag)) : GrowX w w2 (slX b) := gx_then h (gx_gb hg (fun k hk => Or.inr (Or.inl (by injection hk with hk; exact hk.symm))))
theorem gxL {w1 w2 : World} (h : GrowX w w1 (slX b)) (hg : w1.grownBy w2 (some b.lg)) : GrowX w w2 (slX b) := gx_then h (gx_gb hg (fun k hk => Or.inr (Or.inr (Or.inl (by injection hk with hk; exact hk.symm)))))
theorem gxH {w1 w2 : World} (h : GrowX w w1 (slX b)) (hg : w1.grownBy w2 (some b.hg)) : GrowX w w2 (slX b) := gx_then h (gx_gb hg (fun k hk => Or.inr (Or.inr (Or.inr (by injection hk with hk; exact hk.symm)))))
theorem gxS {w1 : World} (h : GrowX w w1 (slX b)) (f : Int) : GrowX w (w1.setCell ⟨b.s, 7, none⟩ (.int .i64 f)) (slX b) := gx_set h (p := ⟨b.s, 7, none⟩) (Or.inr (Or.inl rfl)) _
theorem bput_set {l : List Bool} {k : Nat} (hk : k < l.length) (v : Bool) : bputL l k v = l.set k v := by
  unfold bputL
  rw [if_pos (by omega), Int.toNat_natCast]
theorem stake_none (h : SlAt w b m) (g : SGood m P Z N []) : Calls Try.prog 51 #[sp b.s] w fun e w' => e = .returned (.tuple #[.int .i64 0, .int .i64 5]) ∧ w = w' := by
  have c7 := (sl_cells h).2.2
  rw [g.fst] at c7
  have e9 : hdI P Z [] = -1 := rfl
  rw [e9] at c7
  have hz := h.hd.1
  unfold sp at *
  clear h g
  go_enter Try.func51, Try.ntmps51
  go_wp2_with fail
  exact bodyPost_ret (v := .tuple #[.int .i64 0, .int .i64 5]) (by simp [results, Try.results51, go_sem]) rfl ⟨rfl, rfl⟩
set_option maxHeartbeats 4000000 in
theorem stake_any (h : SlAt w b m) {k : Nat} {rest : List Nat} (g : SGood m P Z N (k :: rest)) : Calls Try.prog 51 #[sp b.s] w fun e w' => e = .returned (.tuple #[.int .i64 k, .int .i64 0]) ∧ SlAt w' b (takeM m P Z k rest) ∧ GrowX w w' (slX b) := by
  have hk : k < N := good_mem g (List.mem_cons_self ..)
  have hkb := good_bs g hk
  obtain ⟨d1, d2⟩ := hd_bd g (pre := [k]) (rest := rest) rfl
  have HFo := Lib.hid (sfollow_any h g (pre := []) (rest := rest) rfl)
  have HSl : Hid (∀ w', Calls Try.prog 88 #[.int .i64 (bsN P Z k : Nat), .int .i64 m.cl] w' fun e w'' => e = .returned (.tuple #[.int .i64 m.pg, .int .i64 (k : Nat)]) ∧ Below w'.heap.size w' w'') := Lib.hid (fun w' => by
    have z := slot_any ((bsN P Z k : Nat) : Int) m.cl w'
    rw [(good_slot g hk).1, (good_slot g hk).2] at z
    exact z)
  have HRm := Lib.hid (fun w' => room_any m.cl w')
  rw [(cls_nums g.zn).2.2.1] at HRm
  obtain ⟨L1, hL1⟩ : ∃ L1, L1 = fillL m.L ((bsN P Z k : Nat) : Int) ((Z - 8 : Nat) : Int) 0 := ⟨_, rfl⟩
  obtain ⟨cv, hcv⟩ : ∃ cv, cv = canI m.key ((bsN P Z k : Nat) : Int) := ⟨_, rfl⟩
  obtain ⟨ca, hca⟩ : ∃ ca, ca = ((bsN P Z k + (Z - 8) : Nat) : Int) := ⟨_, rfl⟩
  obtain ⟨L2, hL2⟩ : ∃ L2, L2 = setW L1 ca cv := ⟨_, rfl⟩
  obtain ⟨l', hl'⟩ : ∃ l', l' = m.ll.set k true := ⟨_, rfl⟩
  have HFill : Hid (∀ w', SlAt w' b m → Calls Try.prog 31 #[tp b.ab, .int .i64 (bsN P Z k : Nat), .int .i64 (Z - 8 : Nat), .int .u8 0] w' fun e w'' => ∃ x, e = .returned (.int .i64 x) ∧ SlAt w'' b { m with L := L1 } ∧ w'.grownBy w'' (some b.ag)) := Lib.hid (fun w' hs => by
    refine (afill_any hs.ar ((bsN P Z k : Nat) : Int) ((Z - 8 : Nat) : Int) 0 (by omega)).mono ?_
    rintro e w'' ⟨rfl, ha, hg⟩
    rw [← hL1] at ha
    exact ⟨_, rfl, sl_arena hs ha hg, hg⟩)
  have HCan : Hid (∀ w', SlAt w' b { m with L := L1 } → Calls Try.prog 90 #[sp b.s, .int .i64 k] w' fun e w'' => e = .returned (.tuple #[.int .i64 ca, .int .u64 cv]) ∧ Below w'.heap.size w' w'') := Lib.hid (fun w' hs => by
    have z := scanary_any hs (k : Int)
    have e1 : canAt { m with L := L1 } k = ca := by rw [hca]; exact good_room g hk
    have e2 : baseI ({ m with L := L1 } : SlM).pg ({ m with L := L1 } : SlM).cl k = ((bsN P Z k : Nat) : Int) := good_base g hk
    rw [e1, e2, ← hcv] at z
    exact z)
  have hcb := canI_bd m.key ((bsN P Z k : Nat) : Int)
  rw [← hcv] at hcb
  have HSet : Hid (∀ w', SlAt w' b { m with L := L1 } → Calls Try.prog 32 #[tp b.ab, .int .i64 ca, .int .u64 cv] w' fun e w'' => ∃ x, e = .returned (.int .i64 x) ∧ SlAt w'' b { m with L := L2 } ∧ w'.grownBy w'' (some b.ag)) := Lib.hid (fun w' hs => by
    refine (asetw_any hs.ar ca cv hcb.1 hcb.2).mono ?_
    rintro e w'' ⟨rfl, ha, hg⟩
    refine ⟨_, rfl, ?_, hg⟩
    have z := sl_arena hs ha hg
    rw [hL2]
    exact z)
  have HPut : Hid (∀ w', SlAt w' b { m with L := L2 } → Calls Try.prog 91 #[sp b.lb, .int .i64 k, .bool true] w' fun e w'' => ∃ x, e = .returned (.int .i64 x) ∧ SlAt w'' b { m with L := L2, ll := l' } ∧ w'.grownBy w'' (some b.lg)) := Lib.hid (fun w' hs => by
    obtain ⟨W1, hl⟩ := hs.li
    refine (bput_any hl (k : Int) true).mono ?_
    rintro e w'' ⟨W2, rfl, hb, hg⟩
    refine ⟨_, rfl, ?_, hg⟩
    have e9 : bputL m.ll k true = l' := by rw [hl']; exact bput_set (by rw [g.ll]; exact hk) true
    have hb' : BitAt w'' b.lb b.lg b.lc W2 (bputL m.ll k true) := hb
    rw [e9] at hb'
    exact sl_live hs hb' (by show l'.length = m.ll.length; rw [hl', List.length_set]) hg)
  have HFIN : Hid (∀ w', SlAt w' b { m with L := L2, ll := l' } → SlAt (w'.setCell ⟨b.s, 7, none⟩ (.int .i64 (hdI P Z rest))) b (takeM m P Z k rest)) := Lib.hid (fun w' hs => by
    have z := sl_first hs (f := hdI P Z rest) d1 d2
    have e : takeM m P Z k rest = { ({ m with L := L2, ll := l' } : SlM) with fst := hdI P Z rest } := by
      unfold takeM
      rw [hL2, hL1, hca, hcv, hl']
    rw [e]
    exact z)
  have HC : Hid (∀ w' L, SlAt w' b { m with L := L } → ((w'.cell? ⟨b.s, 0, none⟩ = some (tp b.ab) ∧ w'.cell? ⟨b.s, 3, none⟩ = some (.int .i64 m.cl)) ∧ (w'.cell? ⟨b.s, 5, none⟩ = some (sp b.lb) ∧ w'.cell? ⟨b.s, 7, none⟩ = some (.int .i64 (bsN P Z k : Nat)))) ∧ b.s < w'.heap.size) := Lib.hid (fun w' L hs => by
    obtain ⟨⟨⟨x0, _⟩, _, x3⟩, ⟨x5, _⟩, x7⟩ := sl_cells hs
    have e : ({ m with L := L } : SlM).fst = ((bsN P Z k : Nat) : Int) := g.fst
    rw [e] at x7
    exact ⟨⟨⟨x0, x3⟩, x5, x7⟩, hs.hd.1⟩)
  have H0 : Hid (SlAt w b { m with L := m.L }) := Lib.hid h
  have HHD : Hid (∀ w', SlAt w' b { m with L := L2, ll := l' } → (∀ i, w'.frozen? ⟨b.s, i, none⟩ = false) ∧ w'.cell? ⟨b.s, 7, none⟩ = some (.int .i64 m.fst) ∧ b.s < w'.heap.size) := Lib.hid (fun w' hs => ⟨hs.hd.2.2, (sl_cells hs).2.2, hs.hd.1⟩)
  generalize hdI P Z rest = nx at *
  have hn1 : (((bsN P Z k : Nat) : Int) == -1) = false := beq_false_of_ne (by omega)
  generalize bsN P Z k = a at *
  generalize Z - 8 = R at *
  clear hL1 hcv hca hL2 hl' hcb d1 d2
  unfold sp tp at *
  obtain ⟨⟨⟨c0, c3⟩, c5, c7⟩, cz⟩ := HC.out w m.L H0.out
  clear h g
  go_enter Try.func51, Try.ntmps51
  go_wp2_with fail
  refine HFo.out.mono ?_
  rintro e w2 ⟨rfl, hb2⟩
  have HB2 := Lib.hid hb2
  have H2 := Lib.hid (sl_below H0.out hb2)
  clear hb2 c0 c3 c5 c7 cz
  go_upto_region 8 with fail
  refine wp_region_held_drew (S := fun w' => (w'.cell? ⟨b.s, 0, none⟩ = some (.pointer (some ⟨b.ab, 0, none⟩)) ∧ w'.cell? ⟨b.s, 3, none⟩ = some (.int .i64 m.cl)) ∧ (w'.cell? ⟨b.s, 5, none⟩ = some (.pointer (some ⟨b.lb, 0, none⟩)) ∧ w'.cell? ⟨b.s, 7, none⟩ = some (.int .i64 a))) (by kernel_rfl) (HC.out _ _ (sl_below H2.out (b_drew (Below.refl _ _)))).1 (fun hHeld => ?_)
  refine atI 0 ?_
  iterate 8 (refine takeN (v := ?_) rfl (by rfl) ?_ hHeld ?_; rotate_left; (focus (intro w hSw; (try dsimp only at hSw); go_simp; try (with_reducible rfl))); (try simp only [Act.put, Nat.reduceAdd, List.getElem_toArray, List.getElem_cons_succ, List.getElem_cons_zero, List.setIfInBounds_toArray, List.set_cons_zero, List.set_cons_succ]))
  refine atIo ?_
  refine wpAnyH_ready (rs := [8]) (by kernel_rfl) (by simp) (AllReadyH.cons rfl (fun K hK => ?_) AllReadyH.nil)
  go_simp
  refine (HSl.out _).mono ?_
  rintro e w3 ⟨rfl, hb3⟩
  have hb23 := b_call (b_drew (Below.refl w2.heap.size w2)) hb3
  have HB3 := Lib.hid (b_call HB2.out hb23)
  have H3 := Lib.hid (sl_below H2.out hb23)
  clear hb3 hb23
  refine hK.out _ _ ((HC.out _ _ H3.out).1) (fun hHeld => ?_)
  clear hK K
  (try simp only [Act.put, List.getElem_toArray, List.getElem_cons_succ, List.getElem_cons_zero, List.setIfInBounds_toArray, List.set_cons_zero, List.set_cons_succ])
  refine atI 9 ?_
  iterate 5 (refine takeN (v := ?_) rfl (by rfl) ?_ hHeld ?_; rotate_left; (focus (intro w hSw; (try dsimp only at hSw); go_simp; try (with_reducible rfl))); (try simp only [Act.put, Nat.reduceAdd, List.getElem_toArray, List.getElem_cons_succ, List.getElem_cons_zero, List.setIfInBounds_toArray, List.set_cons_zero, List.set_cons_succ]))
  refine atIo ?_
  refine wpAnyH_done (by kernel_rfl) ?_ _
  go_upto_region 9 with fail
  refine wp_region_held_drew (S := fun w' => (w'.cell? ⟨b.s, 0, none⟩ = some (.pointer (some ⟨b.ab, 0, none⟩)) ∧ w'.cell? ⟨b.s, 3, none⟩ = some (.int .i64 m.cl)) ∧ (w'.cell? ⟨b.s, 5, none⟩ = some (.pointer (some ⟨b.lb, 0, none⟩)) ∧ w'.cell? ⟨b.s, 7, none⟩ = some (.int .i64 a))) (by kernel_rfl) (HC.out _ _ (sl_below H3.out (b_drew (Below.refl _ _)))).1 (fun hHeld => ?_)
  refine atI 0 ?_
  iterate 12 (refine takeN (v := ?_) rfl (by rfl) ?_ hHeld ?_; rotate_left; (focus (intro w hSw; (try dsimp only at hSw); go_simp; try (with_reducible rfl))); (try simp only [Act.put, Nat.reduceAdd, List.getElem_toArray, List.getElem_cons_succ, List.getElem_cons_zero, List.setIfInBounds_toArray, List.set_cons_zero, List.set_cons_succ]))
  refine atIo ?_
  refine wpAnyH_ready (rs := [12]) (by kernel_rfl) (by simp) (AllReadyH.cons rfl (fun K hK => ?_) AllReadyH.nil)
  go_simp
  refine (HRm.out _).mono ?_
  rintro e w4 ⟨rfl, rfl⟩
  have H4 := Lib.hid (sl_below H3.out (b_drew (Below.refl w3.heap.size w3)))
  refine hK.out _ _ ((HC.out _ _ H4.out).1) (fun hHeld => ?_)
  clear hK K
  (try simp only [Act.put, List.getElem_toArray, List.getElem_cons_succ, List.getElem_cons_zero, List.setIfInBounds_toArray, List.set_cons_zero, List.set_cons_succ])
  refine wpAnyH_ready (rs := [13]) (by kernel_rfl) (by simp) (AllReadyH.cons rfl (fun K hK => ?_) AllReadyH.nil)
  go_simp
  refine (HFill.out _ H4.out).mono ?_
  rintro e w5 ⟨x5, rfl, hs5, hg5⟩
  have H5 := Lib.hid hs5
  have HG5 := Lib.hid (gxA (b := b) (gx_below (b_drew HB3.out) (slX b)) hg5)
  clear hs5 hg5
  refine hK.out _ _ ((HC.out _ _ H5.out).1) (fun hHeld => ?_)
  clear hK K
  (try simp only [Act.put, List.getElem_toArray, List.getElem_cons_succ, List.getElem_cons_zero, List.setIfInBounds_toArray, List.set_cons_zero, List.set_cons_succ])
  refine wpAnyH_done (by kernel_rfl) ?_ _
  obtain ⟨⟨⟨c0, c3⟩, c5, c7⟩, cz⟩ := HC.out _ _ H5.out
  go_wp2_with fail
  refine (HCan.out _ H5.out).mono ?_
  rintro e w6 ⟨rfl, hb6⟩
  have H6 := Lib.hid (sl_below H5.out hb6)
  have HG6 := Lib.hid (gx_call HG5.out hb6)
  clear hb6 c0 c3 c5 c7 cz
  obtain ⟨⟨⟨c0, c3⟩, c5, c7⟩, cz⟩ := HC.out _ _ H6.out
  go_wp2_with fail
  refine (HSet.out _ H6.out).mono ?_
  rintro e w7 ⟨x7, rfl, hs7, hg7⟩
  have H7 := Lib.hid hs7
  have HG7 := Lib.hid (gxA HG6.out hg7)
  clear hs7 hg7 c0 c3 c5 c7 cz
  obtain ⟨⟨⟨c0, c3⟩, c5, c7⟩, cz⟩ := HC.out _ _ H7.out
  go_wp2_with fail
  refine (HPut.out _ H7.out).mono ?_
  rintro e w8 ⟨x8, rfl, hs8, hg8⟩
  have H8 := Lib.hid hs8
  have HG8 := Lib.hid (gxL HG7.out hg8)
  clear hs8 hg8 c0 c3 c5 c7 cz
  obtain ⟨cf, c7, cz⟩ := HHD.out _ H8.out
  go_wp2_with fail
  exact bodyPost_ret (v := .tuple #[.int .i64 k, .int .i64 0]) (by simp [results, Try.results51, go_sem]) rfl ⟨rfl, HFIN.out _ H8.out, gxS HG8.out _⟩
theorem mustE_yes {k s : Int} (hs : s = 1 ∨ s = 2) (h : stI m k = s) : mustE m k s = 0 := by
  unfold mustE
  rw [if_neg (by omega), if_pos h]
theorem mustE_no {k s : Int} (h : stI m k ≠ s) : mustE m k s = 3 ∨ mustE m k s = 8 := by
  unfold mustE
  by_cases q : stI m k = -1
  · rw [if_pos q]; exact Or.inl rfl
  · rw [if_neg q, if_neg h]; exact Or.inr rfl
theorem sdrop_no (h : SlAt w b m) (k : Int) (hk : stI m k ≠ 1) : Calls Try.prog 52 #[sp b.s, .int .i64 k] w fun e w' => e = .returned (.tuple #[.bool false, .int .i64 (mustE m k 1)]) ∧ w = w' := by
  have HM := Lib.hid (smust_any h k 1)
  have hne : (mustE m k 1 != 0) = true := by rcases mustE_no hk with q | q <;> rw [q] <;> rfl
  generalize mustE m k 1 = x at *
  unfold sp at *
  clear h hk
  go_enter Try.func52, Try.ntmps52
  go_wp2_with fail
  refine HM.out.mono ?_
  rintro e w1 ⟨rfl, rfl⟩
  go_wp2_with fail
  exact bodyPost_ret (v := .tuple #[.bool false, .int .i64 x]) (by simp [results, Try.results52, go_sem]) rfl ⟨rfl, rfl⟩
theorem sgive_no (h : SlAt w b m) (k : Int) (hk : stI m k ≠ 2) : Calls Try.prog 53 #[sp b.s, .int .i64 k] w fun e w' => e = .returned (.int .i64 (mustE m k 2)) ∧ w = w' := by
  have HM := Lib.hid (smust_any h k 2)
  have hne : (mustE m k 2 != 0) = true := by rcases mustE_no hk with q | q <;> rw [q] <;> rfl
  generalize mustE m k 2 = x at *
  unfold sp at *
  clear h hk
  go_enter Try.func53, Try.ntmps53
  go_wp2_with fail
  refine HM.out.mono ?_
  rintro e w1 ⟨rfl, rfl⟩
  go_wp2_with fail
  go_ret
  exact ⟨rfl, rfl⟩
set_option maxHeartbeats 4000000 in
theorem sdrop_yes (h : SlAt w b m) (g : SGood m P Z N fl) {k : Nat} (hk : k < N) (hl : m.ll.getD k false = true) : Calls Try.prog 52 #[sp b.s, .int .i64 k] w fun e w' => e = .returned (.tuple #[.bool true, .int .i64 0]) ∧ SlAt w' b (dropM m P Z k) ∧ GrowX w w' (slX b) := by
  have HM := Lib.hid (smust_any h (k : Int) 1)
  rw [mustE_yes (Or.inl rfl) (by rw [good_st_nat g hk, if_pos hl])] at HM
  have HS := Lib.hid (sstands_any h (k : Int))
  rw [good_stands g hk hl] at HS
  have HB := Lib.hid (fun w' (hs : SlAt w' b m) => sbase_any hs (k : Int))
  rw [good_base g hk] at HB
  have HZ := Lib.hid (fun w' => size_any m.cl w')
  rw [(cls_nums g.zn).1] at HZ
  obtain ⟨L1, hL1⟩ : ∃ L1, L1 = fillL m.L ((bsN P Z k : Nat) : Int) (Z : Int) 221 := ⟨_, rfl⟩
  obtain ⟨l1, hl1⟩ : ∃ l1, l1 = m.ll.set k false := ⟨_, rfl⟩
  obtain ⟨l2, hl2⟩ : ∃ l2, l2 = m.hl.set k true := ⟨_, rfl⟩
  have HFill : Hid (∀ w', SlAt w' b m → Calls Try.prog 31 #[tp b.ab, .int .i64 (bsN P Z k : Nat), .int .i64 Z, .int .u8 221] w' fun e w'' => ∃ x, e = .returned (.int .i64 x) ∧ SlAt w'' b { m with L := L1 } ∧ w'.grownBy w'' (some b.ag)) := Lib.hid (fun w' hs => by
    refine (afill_any hs.ar ((bsN P Z k : Nat) : Int) (Z : Int) 221 (by omega)).mono ?_
    rintro e w'' ⟨rfl, ha, hg⟩
    rw [← hL1] at ha
    exact ⟨_, rfl, sl_arena hs ha hg, hg⟩)
  have HPut1 : Hid (∀ w', SlAt w' b { m with L := L1 } → Calls Try.prog 91 #[sp b.lb, .int .i64 k, .bool false] w' fun e w'' => ∃ x, e = .returned (.int .i64 x) ∧ SlAt w'' b { m with L := L1, ll := l1 } ∧ w'.grownBy w'' (some b.lg)) := Lib.hid (fun w' hs => by
    obtain ⟨W1, hl⟩ := hs.li
    refine (bput_any hl (k : Int) false).mono ?_
    rintro e w'' ⟨W2, rfl, hb, hg⟩
    refine ⟨_, rfl, ?_, hg⟩
    have e9 : bputL m.ll k false = l1 := by rw [hl1]; exact bput_set (by rw [g.ll]; exact hk) false
    have hb' : BitAt w'' b.lb b.lg b.lc W2 (bputL m.ll k false) := hb
    rw [e9] at hb'
    exact sl_live hs hb' (by show l1.length = m.ll.length; rw [hl1, List.length_set]) hg)
  have HPut2 : Hid (∀ w', SlAt w' b { m with L := L1, ll := l1 } → Calls Try.prog 91 #[sp b.hb, .int .i64 k, .bool true] w' fun e w'' => ∃ x, e = .returned (.int .i64 x) ∧ SlAt w'' b (dropM m P Z k) ∧ w'.grownBy w'' (some b.hg)) := Lib.hid (fun w' hs => by
    obtain ⟨W1, hl⟩ := hs.he
    refine (bput_any hl (k : Int) true).mono ?_
    rintro e w'' ⟨W2, rfl, hb, hg⟩
    refine ⟨_, rfl, ?_, hg⟩
    have e9 : bputL m.hl k true = l2 := by rw [hl2]; exact bput_set (by rw [g.hl]; exact hk) true
    have hb' : BitAt w'' b.hb b.hg b.hc W2 (bputL m.hl k true) := hb
    rw [e9] at hb'
    have z := sl_held hs hb' (by show l2.length = m.hl.length; rw [hl2, List.length_set]) hg
    have e : dropM m P Z k = { ({ m with L := L1, ll := l1 } : SlM) with hl := l2 } := by
      unfold dropM
      rw [hL1, hl1, hl2]
    rw [e]
    exact z)
  have HC : Hid (∀ w' L l, SlAt w' b { m with L := L, ll := l } → ((w'.cell? ⟨b.s, 0, none⟩ = some (tp b.ab) ∧ w'.cell? ⟨b.s, 3, none⟩ = some (.int .i64 m.cl)) ∧ (w'.cell? ⟨b.s, 5, none⟩ = some (sp b.lb) ∧ w'.cell? ⟨b.s, 6, none⟩ = some (sp b.hb))) ∧ b.s < w'.heap.size) := Lib.hid (fun w' L l hs => by
    obtain ⟨⟨⟨x0, _⟩, _, x3⟩, ⟨x5, x6⟩, x7⟩ := sl_cells hs
    exact ⟨⟨⟨x0, x3⟩, x5, x6⟩, hs.hd.1⟩)
  have H0 : Hid (SlAt w b { m with L := m.L, ll := m.ll }) := Lib.hid h
  generalize bsN P Z k = a at *
  clear hL1 hl1 hl2
  unfold sp tp at *
  clear h g
  go_enter Try.func52, Try.ntmps52
  go_wp2_with fail
  refine HM.out.mono ?_
  rintro e w1 ⟨rfl, rfl⟩
  go_wp2_with fail
  refine HS.out.mono ?_
  rintro e w2 ⟨rfl, hb2⟩
  have HB2 := Lib.hid hb2
  have H2 := Lib.hid (sl_below H0.out hb2)
  clear hb2
  go_upto_region 5 with fail
  refine wp_region_held_drew (S := fun w' => (w'.cell? ⟨b.s, 0, none⟩ = some (.pointer (some ⟨b.ab, 0, none⟩)) ∧ w'.cell? ⟨b.s, 3, none⟩ = some (.int .i64 m.cl)) ∧ (w'.cell? ⟨b.s, 5, none⟩ = some (.pointer (some ⟨b.lb, 0, none⟩)) ∧ w'.cell? ⟨b.s, 6, none⟩ = some (.pointer (some ⟨b.hb, 0, none⟩)))) (by kernel_rfl) (HC.out _ _ _ (sl_below H2.out (b_drew (Below.refl _ _)))).1 (fun hHeld => ?_)
  refine atI 0 ?_
  iterate 6 (refine takeN (v := ?_) rfl (by rfl) ?_ hHeld ?_; rotate_left; (focus (intro w hSw; (try dsimp only at hSw); go_simp; try (with_reducible rfl))); (try simp only [Act.put, Nat.reduceAdd, List.getElem_toArray, List.getElem_cons_succ, List.getElem_cons_zero, List.setIfInBounds_toArray, List.set_cons_zero, List.set_cons_succ]))
  refine atIo ?_
  refine atI 7 ?_
  iterate 4 (refine takeN (v := ?_) rfl (by rfl) ?_ hHeld ?_; rotate_left; (focus (intro w hSw; (try dsimp only at hSw); go_simp; try (with_reducible rfl))); (try simp only [Act.put, Nat.reduceAdd, List.getElem_toArray, List.getElem_cons_succ, List.getElem_cons_zero, List.setIfInBounds_toArray, List.set_cons_zero, List.set_cons_succ]))
  refine atIo ?_
  refine wpAnyH_ready (rs := [6]) (by kernel_rfl) (by simp) (AllReadyH.cons rfl (fun K hK => ?_) AllReadyH.nil)
  go_simp
  refine (HB.out _ (sl_below H2.out (b_drew (Below.refl _ _)))).mono ?_
  rintro e w3 ⟨rfl, hb3⟩
  have hb23 := b_call (b_drew (Below.refl w2.heap.size w2)) hb3
  have HB3 := Lib.hid (b_call HB2.out hb23)
  have H3 := Lib.hid (sl_below H2.out hb23)
  clear hb3 hb23
  refine hK.out _ _ ((HC.out _ _ _ H3.out).1) (fun hHeld => ?_)
  clear hK K
  (try simp only [Act.put, List.getElem_toArray, List.getElem_cons_succ, List.getElem_cons_zero, List.setIfInBounds_toArray, List.set_cons_zero, List.set_cons_succ])
  refine wpAnyH_ready (rs := [11]) (by kernel_rfl) (by simp) (AllReadyH.cons rfl (fun K hK => ?_) AllReadyH.nil)
  go_simp
  refine (HZ.out _).mono ?_
  rintro e w4 ⟨rfl, rfl⟩
  refine hK.out _ _ ((HC.out _ _ _ H3.out).1) (fun hHeld => ?_)
  clear hK K
  (try simp only [Act.put, List.getElem_toArray, List.getElem_cons_succ, List.getElem_cons_zero, List.setIfInBounds_toArray, List.set_cons_zero, List.set_cons_succ])
  refine wpAnyH_ready (rs := [12]) (by kernel_rfl) (by simp) (AllReadyH.cons rfl (fun K hK => ?_) AllReadyH.nil)
  go_simp
  refine (HFill.out _ H3.out).mono ?_
  rintro e w5 ⟨x5, rfl, hs5, hg5⟩
  have H5 := Lib.hid hs5
  have HG5 := Lib.hid (gxA (b := b) (gx_below HB3.out (slX b)) hg5)
  clear hs5 hg5
  refine hK.out _ _ ((HC.out _ _ _ H5.out).1) (fun hHeld => ?_)
  clear hK K
  (try simp only [Act.put, List.getElem_toArray, List.getElem_cons_succ, List.getElem_cons_zero, List.setIfInBounds_toArray, List.set_cons_zero, List.set_cons_succ])
  refine wpAnyH_done (by kernel_rfl) ?_ _
  obtain ⟨⟨⟨c0, c3⟩, c5, c6⟩, cz⟩ := HC.out _ _ _ H5.out
  go_wp2_with fail
  refine (HPut1.out _ H5.out).mono ?_
  rintro e w7 ⟨x7, rfl, hs7, hg7⟩
  have H7 := Lib.hid hs7
  have HG7 := Lib.hid (gxL HG5.out hg7)
  clear hs7 hg7 c0 c3 c5 c6 cz
  obtain ⟨⟨⟨c0, c3⟩, c5, c6⟩, cz⟩ := HC.out _ _ _ H7.out
  go_wp2_with fail
  refine (HPut2.out _ H7.out).mono ?_
  rintro e w8 ⟨x8, rfl, hs8, hg8⟩
  have H8 := Lib.hid hs8
  have HG8 := Lib.hid (gxH HG7.out hg8)
  clear hs8 hg8 c0 c3 c5 c6 cz
  go_wp2_with fail
  exact bodyPost_ret (v := .tuple #[.bool true, .int .i64 0]) (by simp [results, Try.results52, go_sem]) rfl ⟨rfl, H8.out, HG8.out⟩
set_option maxHeartbeats 4000000 in
theorem sgive_yes (h : SlAt w b m) (g : SGood m P Z N fl) {k : Nat} (hk : k < N) (hl0 : m.ll.getD k false = false) (hl : m.hl.getD k false = true) : Calls Try.prog 53 #[sp b.s, .int .i64 k] w fun e w' => e = .returned (.int .i64 0) ∧ SlAt w' b (giveM m P Z k) ∧ GrowX w w' (slX b) := by
  have HM := Lib.hid (smust_any h (k : Int) 2)
  rw [mustE_yes (Or.inr rfl) (by rw [good_st_nat g hk, if_neg (by rw [hl0]; decide), if_pos hl])] at HM
  obtain ⟨l2, hl2⟩ : ∃ l2, l2 = m.hl.set k false := ⟨_, rfl⟩
  have HPut : Hid (∀ w', SlAt w' b m → Calls Try.prog 91 #[sp b.hb, .int .i64 k, .bool false] w' fun e w'' => ∃ x, e = .returned (.int .i64 x) ∧ SlAt w'' b { m with hl := l2 } ∧ w'.grownBy w'' (some b.hg)) := Lib.hid (fun w' hs => by
    obtain ⟨W1, hl⟩ := hs.he
    refine (bput_any hl (k : Int) false).mono ?_
    rintro e w'' ⟨W2, rfl, hb, hg⟩
    refine ⟨_, rfl, ?_, hg⟩
    have e9 : bputL m.hl k false = l2 := by rw [hl2]; exact bput_set (by rw [g.hl]; exact hk) false
    rw [e9] at hb
    exact sl_held hs hb (by show l2.length = m.hl.length; rw [hl2, List.length_set]) hg)
  have HJ : Hid (∀ w', SlAt w' b { m with hl := l2 } → Calls Try.prog 95 #[sp b.s, .int .i64 k] w' fun e w'' => e = .returned (.tuple #[]) ∧ SlAt w'' b (giveM m P Z k) ∧ GrowX w' w'' (slX b)) := Lib.hid (fun w' hs => by
    refine (sjoin_any hs (k : Int)).mono ?_
    rintro e w'' ⟨rfl, hs2, hg⟩
    refine ⟨rfl, ?_, gx_mono hg (fun j _ hj => hj.elim Or.inl (fun q => Or.inr (Or.inl q)))⟩
    have e2 : baseI ({ m with hl := l2 } : SlM).pg ({ m with hl := l2 } : SlM).cl k = ((bsN P Z k : Nat) : Int) := good_base g hk
    rw [e2] at hs2
    have e : giveM m P Z k = { ({ m with hl := l2 } : SlM) with L := setW m.L ((bsN P Z k : Nat) : Int) (putI m.key ((bsN P Z k : Nat) : Int) m.fst), fst := ((bsN P Z k : Nat) : Int) } := by
      unfold giveM
      rw [hl2]
    rw [e]
    exact hs2)
  have c6 := (sl_cells h).2.1.2
  have hz := h.hd.1
  have H0 := Lib.hid h
  unfold sp at *
  clear h g hl2
  go_enter Try.func53, Try.ntmps53
  go_wp2_with fail
  refine HM.out.mono ?_
  rintro e w1 ⟨rfl, rfl⟩
  go_wp2_with fail
  refine (HPut.out _ H0.out).mono ?_
  rintro e w2 ⟨x2, rfl, hs2, hg2⟩
  have H2 := Lib.hid hs2
  have HG2 := Lib.hid (gxH (b := b) (gx_refl w (slX b)) hg2)
  clear hs2 hg2 c6 hz
  go_wp2_with fail
  refine (HJ.out _ H2.out).mono ?_
  rintro e w3 ⟨rfl, hs3, hg3⟩
  have H3 := Lib.hid hs3
  have HG3 := Lib.hid (gx_then HG2.out hg3)
  clear hs3 hg3
  go_wp2_with fail
  go_ret
  exact ⟨rfl, H3.out, HG3.out⟩
end Go.Proofs.Ytgbbnmjfkhconaa
