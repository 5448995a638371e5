/- Layer 7: the contract of Make; of calls of a slab that is not there. Conditions: those stated. -/
import Derived.Test.YtgbbnmjfkhconaaSla4
namespace Go.Proofs.Ytgbbnmjfkhconaa
open Go.RowKit
set_option linter.unusedVariables false
set_option linter.unusedSimpArgs false
attribute [local go_sem] over_cell over_frozen
variable {w w' : World} {b : SlB} {m : SlM} {P Z N : Nat} {fl : List Nat}
theorem wp_named {P : Program} {c : Code} {Q : Exit → Act → World → Prop} {a : Act} {w : World} (h : ∀ w1, w1 = w → Code.wp P c Q a w1) : Code.wp P c Q a w := h _ rfl
theorem wpAnyH_named {P : Program} {md : Region.Mode} {ops : Array Oper} {Q : Exit → Act → World → Prop} {S : World → Prop} {fuel : Nat} {listed : Array Bool} {a : Act} {w : World} (h : ∀ w1, w1 = w → wpAnyH P md ops Q S fuel listed a w1) : wpAnyH P md ops Q S fuel listed a w := h _ rfl
theorem smake_nil (c : Value) (hc : ∃ k, c = .agg #[.int .u64 k]) (p cl ow : Int) (w : World) : Calls Try.prog 60 #[.pointer none, c, .int .i64 p, .int .i64 cl, .int .i64 ow] w fun e w' => e = .returned (.tuple #[.pointer none, .int .i64 2]) ∧ Below w.heap.size w w' := by
  obtain ⟨k, rfl⟩ := hc
  have HS := Lib.hid (fun w => slots_any cl w)
  go_enter Try.func60, Try.ntmps60
  go_wp2_with fail
  refine (HS.out _).mono ?_
  rintro e w1 ⟨rfl, rfl⟩
  go_wp2_with fail
  exact bodyPost_ret (v := .tuple #[.pointer none, .int .i64 2]) (by simp [results, Try.results60, go_sem]) rfl ⟨rfl, b_alloc (Below.refl _ _) _⟩
/-- Is there such a slab? -/
def mkOk (len : Nat) (p cl : Int) : Prop := slotsI cl ≠ 0 ∧ 0 ≤ p ∧ p < (len : Int) / 256
theorem smake_bad {ab ag ac : Nat} {L : List Int} (h : AreAt w ab ag ac L) (c : Value) (hc : ∃ k, c = .agg #[.int .u64 k]) (p cl ow : Int) (hb : ¬ mkOk L.length p cl) : Calls Try.prog 60 #[tp ab, c, .int .i64 p, .int .i64 cl, .int .i64 ow] w fun e w' => e = .returned (.tuple #[.pointer none, .int .i64 1]) ∧ Below w.heap.size w w' := by
  obtain ⟨k, rfl⟩ := hc
  have HS := Lib.hid (fun w => slots_any cl w)
  have HL := Lib.hid (fun w' (hb : Below w.heap.size w w') => alen_any (are_below h hb))
  have hq : ((L.length : Int)).tdiv 256 = (L.length : Int) / 256 := Int.tdiv_eq_ediv_of_nonneg (by omega)
  obtain ⟨D, hD⟩ : ∃ D, D = (L.length : Int) / 256 := ⟨_, rfl⟩
  have hD0 : 0 ≤ D ∧ D ≤ 65536 := by have := h.mx; omega
  unfold mkOk at hb
  rw [← hD] at hb hq
  unfold tp at *
  clear h hD
  by_cases h1 : slotsI cl = 0
  · rw [h1] at HS
    clear h1 hb
    go_enter Try.func60, Try.ntmps60
    go_wp2_with fail
    refine (HS.out _).mono ?_
    rintro e w1 ⟨rfl, rfl⟩
    go_wp2_with fail
    exact bodyPost_ret (v := .tuple #[.pointer none, .int .i64 1]) (by simp [results, Try.results60, go_sem]) rfl ⟨rfl, b_alloc (Below.refl _ _) _⟩
  have n1 : (slotsI cl == 0) = false := beq_false_of_ne h1
  by_cases h2 : p < 0
  · generalize slotsI cl = n at *
    clear hb h1
    go_enter Try.func60, Try.ntmps60
    go_wp2_with fail
    refine (HS.out _).mono ?_
    rintro e w1 ⟨rfl, rfl⟩
    go_wp2_with fail
    exact bodyPost_ret (v := .tuple #[.pointer none, .int .i64 1]) (by simp [results, Try.results60, go_sem]) rfl ⟨rfl, b_alloc (Below.refl _ _) _⟩
  have h3 : p ≥ D := by
    rcases Int.lt_or_le p D with q | q
    · exact absurd ⟨h1, by omega, q⟩ hb
    · exact q
  generalize slotsI cl = n at *
  clear hb h1
  go_enter Try.func60, Try.ntmps60
  go_wp2_with fail
  refine (HS.out _).mono ?_
  rintro e w1 ⟨rfl, rfl⟩
  go_wp2_with fail
  refine (HL.out _ (b_alloc (Below.refl _ _) _)).mono ?_
  rintro e w1 ⟨rfl, rfl⟩
  go_wp2_with fail
  exact bodyPost_ret (v := .tuple #[.pointer none, .int .i64 1]) (by simp [results, Try.results60, go_sem]) rfl ⟨rfl, b_alloc (Below.refl _ _) _⟩
/-- A slab while it is made: its slots from j on are linked. -/
structure InitS (m : SlM) (P Z N j : Nat) : Prop where
  pg : m.pg = P
  pm : P < 256
  zn : ClsOf m.cl Z N
  ll : m.ll = List.replicate N false
  hl : m.hl = List.replicate N false
  fit : 256 * P + 256 ≤ m.L.length
  mx : m.L.length ≤ 65536
  ch : ChainL m.L m.key P Z ((List.range N).drop j)
  fst : m.fst = hdI P Z ((List.range N).drop j)
theorem init_good (h : InitS m P Z N 0) : SGood m P Z N (List.range N) := by
  have e : ∀ k, (List.replicate N false).getD k false = false := fun k => getD_rep _ _ _ rfl
  refine ⟨h.pg, h.pm, h.zn, by rw [h.ll]; simp, by rw [h.hl]; simp, h.fit, h.mx, List.nodup_range, fun k => ?_, fun k hk => ?_, by simpa using h.ch, by simpa using h.fst, fun k _ hl => ?_, fun k _ hl => ?_⟩
  · rw [List.mem_range, h.ll, h.hl, e]; simp
  · rw [h.ll, e] at hk; cases hk
  · rw [h.ll, e] at hl; cases hl
  · rw [h.hl, e] at hl; cases hl
theorem init_base (h : InitS m P Z N fl.length) {k : Nat} (hk : k < N) : baseI m.pg m.cl k = ((bsN P Z k : Nat) : Int) := by
  obtain ⟨e1, e2, _, _⟩ := cls_nums h.zn
  have := h.pm
  unfold baseI
  rw [e1, e2, h.pg, if_pos (by omega)]
  unfold bsN
  simp
theorem init_step {j : Nat} (hj : j < N) (h : InitS m P Z N (j + 1)) : InitS { m with L := setW m.L ((bsN P Z j : Nat) : Int) (putI m.key ((bsN P Z j : Nat) : Int) m.fst), fst := ((bsN P Z j : Nat) : Int) } P Z N j ∧ (setW m.L ((bsN P Z j : Nat) : Int) (putI m.key ((bsN P Z j : Nat) : Int) m.fst)).length = m.L.length := by
  obtain ⟨z1, z2, _, _, _⟩ := cls_bd h.zn
  have hin := cls_in h.zn hj
  have hb : bsN P Z j = 256 * P + Z * j := rfl
  have hfit := h.fit
  have w1 : wordE m.L.length ((bsN P Z j : Nat) : Int) = 0 := by
    have h2 : bsN P Z j % 8 = 0 := (cls_al (P := P) (k := j) h.zn).1
    unfold wordE
    rw [show (8 : Int) = ((8 : Nat) : Int) from rfl, inE_ok (by omega), if_pos rfl, if_pos (by omega)]
  have e2 : setW m.L ((bsN P Z j : Nat) : Int) (putI m.key ((bsN P Z j : Nat) : Int) m.fst) = lay m.L (bsN P Z j) (putL 8 (putI m.key ((bsN P Z j : Nat) : Int) m.fst)) := setw_in w1 _
  have ho : OutS m.L (setW m.L ((bsN P Z j : Nat) : Int) (putI m.key ((bsN P Z j : Nat) : Int) m.fst)) (bsN P Z j) Z := by
    rw [e2]; exact out_lay (by rw [putL_len8]; omega) (Nat.le_refl _) (by rw [putL_len8]; omega)
  have hd : (List.range N).drop j = j :: (List.range N).drop (j + 1) := by
    rw [List.drop_eq_getElem_cons (by simpa using hj), List.getElem_range]
  have hnk : j ∉ (List.range N).drop (j + 1) := by
    have z : ((List.range N).drop j).Nodup := (List.nodup_range).sublist (List.drop_sublist _ _)
    rw [hd] at z
    exact (List.nodup_cons.1 z).1
  refine ⟨⟨h.pg, h.pm, h.zn, h.ll, h.hl, by show _ ≤ (setW _ _ _).length; rw [ho.1]; exact hfit, by show (setW _ _ _).length ≤ _; rw [ho.1]; exact h.mx, ?_, ?_⟩, ho.1⟩
  · show ChainL (setW m.L ((bsN P Z j : Nat) : Int) (putI m.key ((bsN P Z j : Nat) : Int) m.fst)) m.key P Z ((List.range N).drop j)
    rw [hd]
    refine ⟨?_, chain_out h.zn ho hnk h.ch⟩
    rw [e2, ← h.fst]
    exact getW_same (by omega) (putI_bd _ _ _).1 (putI_bd _ _ _).2
  · show ((bsN P Z j : Nat) : Int) = hdI P Z ((List.range N).drop j)
    rw [hd]; rfl
/-- What Make gives back: a slab all of whose slots are free. -/
def MkEnd (w : World) (ab ag ac : Nat) (L : List Int) (key : Int) (P Z N : Nat) (cl ow : Int) (e : Ending) (w' : World) : Prop := ∃ b m, e = .returned (.tuple #[sp b.s, .int .i64 0]) ∧ SlAt w' b m ∧ SGood m P Z N (List.range N) ∧ (b.ab = ab ∧ b.ag = ag ∧ b.ac = ac) ∧ (m.key = key ∧ m.cl = cl ∧ m.ow = ow ∧ m.L.length = L.length) ∧ (w.heap.size ≤ b.s ∧ w.heap.size ≤ b.lb ∧ w.heap.size ≤ b.lg ∧ w.heap.size ≤ b.hb ∧ w.heap.size ≤ b.hg) ∧ GrowX w w' (fun j => j = ag)
set_option maxHeartbeats 8000000 in
theorem smake_ok {ab ag ac : Nat} {L : List Int} (h : AreAt w ab ag ac L) (key : Int) (k0 : 0 ≤ key) (k1 : key < 18446744073709551616) (cl ow : Int) (hz : ClsOf cl Z N) (hp : 256 * P + 256 ≤ L.length) : Calls Try.prog 60 #[tp ab, .agg #[.int .u64 key], .int .i64 P, .int .i64 cl, .int .i64 ow] w (MkEnd w ab ag ac L key P Z N cl ow) := by
  have hmx := h.mx
  have hpm : P < 256 := by omega
  have HS := Lib.hid (fun w => slots_any cl w)
  rw [(cls_nums hz).2.1] at HS
  have HL := Lib.hid (fun w' (hb : Below w.heap.size w w') => alen_any (are_below h hb))
  have hq : ((L.length : Int)).tdiv 256 = (L.length : Int) / 256 := Int.tdiv_eq_ediv_of_nonneg (by omega)
  obtain ⟨D, hD⟩ : ∃ D, D = (L.length : Int) / 256 := ⟨_, rfl⟩
  have hD0 : 0 ≤ D ∧ D ≤ 65536 := by omega
  have hpD : ¬ ((P : Int) ≥ D) := by omega
  obtain ⟨_, _, n2, n16, _⟩ := cls_bd hz
  have nN : ((N : Int) == 0) = false := beq_false_of_ne (by omega)
  have nN2 : (N : Int) ≤ 16 := by omega
  have nN3 : (2 : Int) ≤ N := by omega
  rw [← hD] at hq
  have HN : Hid (∀ w', Calls Try.prog 101 #[.int .i64 N] w' (NewBit w' (List.replicate N false))) := Lib.hid (fun w' => by
    have z := bnew_any (N : Int) w'
    have e : bitN (N : Int) = N := by unfold bitN; rw [if_neg (by omega), if_neg (by omega), Int.toNat_natCast]
    rw [e] at z
    exact z)
  have HA := Lib.hid h
  have HJ : Hid (∀ (b : SlB) (m : SlM) (j : Nat) w', SlAt w' b m → InitS m P Z N (j + 1) → j < N → Calls Try.prog 95 #[sp b.s, .int .i64 j] w' fun e w'' => e = .returned (.tuple #[]) ∧ ∃ m', SlAt w'' b m' ∧ InitS m' P Z N j ∧ (m'.key = m.key ∧ m'.cl = m.cl ∧ m'.ow = m.ow ∧ m'.L.length = m.L.length) ∧ GrowX w' w'' (fun i => i = b.s ∨ i = b.ag)) := Lib.hid (fun b m j w' hs hi hj => by
    refine (sjoin_any hs (j : Int)).mono ?_
    rintro e w'' ⟨rfl, hs2, hg⟩
    have e2 : baseI m.pg m.cl j = ((bsN P Z j : Nat) : Int) := by
      obtain ⟨e1, e2, _, _⟩ := cls_nums hi.zn
      unfold baseI
      rw [e1, e2, hi.pg, if_pos (by omega)]
      unfold bsN
      simp
    rw [e2] at hs2
    obtain ⟨i1, i2⟩ := init_step hj hi
    exact ⟨rfl, _, hs2, i1, ⟨rfl, rfl, rfl, i2⟩, hg⟩)
  have HZ := Lib.hid hz
  have HP := Lib.hid hp
  have HPM := Lib.hid hpm
  have HK := Lib.hid (And.intro k0 k1)
  unfold tp at *
  clear h hD hz hp k0 k1
  go_enter Try.func60, Try.ntmps60
  go_upto_region 1 with fail
  refine wp_named ?_
  intro W1 hW1
  have X6 := Lib.hid (show Blk W1 w.heap.size [.int .u64 key] by rw [hW1]; exact blk_new _ _ _)
  have HB1 := Lib.hid (show Below w.heap.size w W1 by rw [hW1]; exact b_alloc (Below.refl _ _) _)
  clear hW1
  go_wp2_with fail
  refine (HS.out _).mono ?_
  rintro e w1 ⟨rfl, rfl⟩
  go_wp2_with fail
  refine (HL.out _ HB1.out).mono ?_
  rintro e w1 ⟨rfl, rfl⟩
  go_upto_region 6 with fail
  have HC : Hid (∀ w', Below W1.heap.size W1 w' → w'.cell? ⟨w.heap.size, 0, none⟩ = some (.int .u64 key)) := Lib.hid (fun w' hb => by
    have z := (blk_below X6.out hb).2.1 0 (by simp)
    simpa using z)
  refine wp_region_held_drew (S := fun w' => w'.cell? ⟨w.heap.size, 0, none⟩ = some (.int .u64 key)) (by kernel_rfl) (HC.out _ (b_drew (Below.refl _ _))) (fun hHeld => ?_)
  refine atI 0 ?_
  iterate 6 (refine takeN (v := ?_) rfl (by rfl) ?_ hHeld ?_; rotate_left; (focus (intro w hSw; (try dsimp only at hSw); go_simp; try (with_reducible rfl))); (try simp only [Act.put, Nat.reduceAdd, List.getElem_toArray, List.getElem_cons_succ, List.getElem_cons_zero, List.setIfInBounds_toArray, List.set_cons_zero, List.set_cons_succ]))
  refine atIo ?_
  (refine wpAnyH_take (i := 7) (v := ?_) rfl (by kernel_rfl) (by kernel_rfl) (by kernel_rfl) (fun _ _ _ h => h) (Or.inl ⟨by rfl, ?_⟩) hHeld ?_; rotate_left; (focus (intro w hSw; (try dsimp only at hSw); go_simp; try (with_reducible rfl))); (try simp only [Act.put, List.getElem_toArray, List.getElem_cons_succ, List.getElem_cons_zero, List.setIfInBounds_toArray, List.set_cons_zero, List.set_cons_succ]))
  refine wpAnyH_ready (rs := [6]) (by kernel_rfl) (by simp) (AllReadyH.cons rfl (fun K hK => ?_) AllReadyH.nil)
  go_simp
  refine (HN.out _).mono ?_
  rintro e w2 ⟨lb, lg, lc, LW, rfl, hl2, gl1, gl2, hb2⟩
  unfold sp
  have HB12 := Lib.hid (b_call (b_drew (Below.refl W1.heap.size W1)) hb2)
  have HL2 := Lib.hid hl2
  have HGL : Hid (W1.heap.size ≤ lb ∧ W1.heap.size ≤ lg) := Lib.hid ⟨gl1, gl2⟩
  clear hl2 gl1 gl2 hb2
  refine hK.out _ _ (HC.out _ HB12.out) (fun hHeld => ?_)
  clear hK K
  (try simp only [Act.put, List.getElem_toArray, List.getElem_cons_succ, List.getElem_cons_zero, List.setIfInBounds_toArray, List.set_cons_zero, List.set_cons_succ])
  refine wpAnyH_ready (rs := [8]) (by kernel_rfl) (by simp) (AllReadyH.cons rfl (fun K hK => ?_) AllReadyH.nil)
  go_simp
  refine (HN.out _).mono ?_
  rintro e w3 ⟨hb, hg, hc, HW, rfl, hl3, gh1, gh2, hb3⟩
  unfold sp
  have HB13 := Lib.hid (b_call HB12.out hb3)
  have HL3 := Lib.hid hl3
  have HL23 := Lib.hid (bit_below HL2.out hb3)
  have HGH : Hid (w2.heap.size ≤ hb ∧ w2.heap.size ≤ hg) := Lib.hid ⟨gh1, gh2⟩
  clear hl3 gh1 gh2 hb3
  refine hK.out _ _ (HC.out _ HB13.out) (fun hHeld => ?_)
  clear hK K
  (try simp only [Act.put, List.getElem_toArray, List.getElem_cons_succ, List.getElem_cons_zero, List.setIfInBounds_toArray, List.set_cons_zero, List.set_cons_succ])
  (refine wpAnyH_take (i := 9) (v := ?_) rfl (by kernel_rfl) (by kernel_rfl) (by kernel_rfl) (fun _ _ _ h => h) (Or.inl ⟨by rfl, ?_⟩) hHeld ?_; rotate_left; (focus (intro w hSw; (try dsimp only at hSw); go_simp; try (with_reducible rfl))); (try simp only [Act.put, List.getElem_toArray, List.getElem_cons_succ, List.getElem_cons_zero, List.setIfInBounds_toArray, List.set_cons_zero, List.set_cons_succ]))
  refine wpAnyH_ready (rs := [10]) (by kernel_rfl) (by simp) (AllReadyH.cons rfl (fun K hK => ?_) AllReadyH.nil)
  go_simp
  refine hK.out _ _ (HC.out _ (b_alloc HB13.out _)) (fun hHeld => ?_)
  clear hK K
  (try simp only [Act.put, List.getElem_toArray, List.getElem_cons_succ, List.getElem_cons_zero, List.setIfInBounds_toArray, List.set_cons_zero, List.set_cons_succ])
  refine wpAnyH_named ?_
  intro w4 hw4
  have X4 := Lib.hid (show Blk w4 w3.heap.size [.pointer (some ⟨ab, 0, none⟩), .int .u64 key, .int .i64 P, .int .i64 cl, .int .i64 ow, sp lb, sp hb, .int .i64 (-1)] by rw [hw4]; exact blk_new _ _ _)
  have HB34 := Lib.hid (show Below w3.heap.size w3 w4 by rw [hw4]; exact b_alloc (Below.refl _ _) _)
  clear hw4
  replace hHeld := HC.out _ (b_call HB13.out HB34.out)
  obtain ⟨s, hs⟩ : ∃ s, s = w3.heap.size := ⟨_, rfl⟩
  rw [← hs] at X4 ⊢
  have HSS := Lib.hid hs
  clear hs
  (refine wpAnyH_take (i := 11) (v := ?_) rfl (by kernel_rfl) (by kernel_rfl) (by kernel_rfl) (fun _ _ _ h => h) (Or.inl ⟨by rfl, ?_⟩) hHeld ?_; rotate_left; (focus (intro w hSw; (try dsimp only at hSw); go_simp; try (with_reducible rfl))); (try simp only [Act.put, List.getElem_toArray, List.getElem_cons_succ, List.getElem_cons_zero, List.setIfInBounds_toArray, List.set_cons_zero, List.set_cons_succ]))
  refine wpAnyH_done (by kernel_rfl) ?_ _
  have H4 : Hid (SlAt w4 ⟨s, ab, ag, ac, lb, lg, lc, hb, hg, hc⟩ ⟨key, P, cl, ow, -1, L, List.replicate N false, List.replicate N false⟩) := Lib.hid (by
    have a1 := are_below HA.out (b_call HB1.out (b_call HB13.out HB34.out))
    have z1 := HA.out.hd.1
    have z2 := HA.out.rw.1
    have z3 := HL2.out.hd.1
    have z4 := HL2.out.rw.1
    have z5 := HL3.out.hd.1
    have z6 := HL3.out.rw.1
    have n1 := HA.out.ne
    have n2 := HL2.out.ne
    have n3 := HL3.out.ne
    obtain ⟨g1, g2⟩ := HGL.out
    obtain ⟨g3, g4⟩ := HGH.out
    have hss := HSS.out
    have s1 := HB1.out.size
    have s2 := HB12.out.size
    have s3 := HB13.out.size
    refine ⟨X4.out, a1, ⟨_, bit_below HL23.out HB34.out⟩, ⟨_, bit_below HL3.out HB34.out⟩, ?_, HK.out.1, HK.out.2, by show (-1 : Int) ≤ -1; omega, by show (-1 : Int) ≤ 65536; omega, ?_, ?_⟩
    · simp only [List.nodup_cons, List.mem_cons, List.not_mem_nil, or_false, not_or, not_false_eq_true, List.nodup_nil, and_true]
      have z7 : w2.heap.size ≤ w3.heap.size := Nat.le_trans g3 (Nat.le_of_lt z5)
      refine ⟨⟨?_, ?_, ?_, ?_, ?_, ?_⟩, ⟨?_, ?_, ?_, ?_, ?_⟩, ⟨?_, ?_, ?_, ?_⟩, ⟨?_, ?_, ?_⟩, ⟨?_, ?_⟩, ?_⟩ <;> first | exact n1 | exact n2 | exact n3 | omega
    · show (List.replicate N false).length = (slotsI cl).toNat
      rw [(cls_nums HZ.out).2.1]; simp
    · show (List.replicate N false).length = (slotsI cl).toNat
      rw [(cls_nums HZ.out).2.1]; simp)
  have HI : Hid (InitS ⟨key, P, cl, ow, -1, L, List.replicate N false, List.replicate N false⟩ P Z N N) := Lib.hid (by
    have e : (List.range N).drop N = [] := List.drop_eq_nil_of_le (by simp)
    exact ⟨rfl, HPM.out, HZ.out, rfl, rfl, HP.out, hmx, by rw [e]; trivial, by rw [e]; rfl⟩)
  have HG4 : Hid (GrowX w w4 (fun j => j = ag)) := Lib.hid (gx_below (b_call HB1.out (b_call HB13.out HB34.out)) _)
  have HLO : Hid (w.heap.size ≤ s ∧ w.heap.size ≤ lb ∧ w.heap.size ≤ lg ∧ w.heap.size ≤ hb ∧ w.heap.size ≤ hg) := Lib.hid (by
    obtain ⟨g1, g2⟩ := HGL.out
    obtain ⟨g3, g4⟩ := HGH.out
    have hss := HSS.out
    have s1 := HB1.out.size
    have s2 := HB12.out.size
    have s3 := HB13.out.size
    exact ⟨by omega, by omega, by omega, by omega, by omega⟩)
  clear X4 HB34 HL2 HL3 HL23 HGL HGH HSS X6 HC HB12 HB13 hHeld hq hpD hD0 HA
  unfold sp at *
  go_wp2_with fail
  go_loopw [14] (fun kv wr => ∃ j : Nat, j ≤ N ∧ kv = .int .i64 (j - 1 : Int) ∧ Hid (∃ m', SlAt wr ⟨s, ab, ag, ac, lb, lg, lc, hb, hg, hc⟩ m' ∧ InitS m' P Z N j ∧ (m'.key = key ∧ m'.cl = cl ∧ m'.ow = ow ∧ m'.L.length = L.length)) ∧ Hid (GrowX w wr (fun j => j = ag))) (fun kv _ => (intOf kv + 1).toNat)
  case atStart => exact ⟨N, Nat.le_refl _, rfl, Lib.hid ⟨_, H4.out, HI.out, rfl, rfl, rfl, rfl⟩, HG4⟩
  case round =>
    clear H4 HI HG4
    obtain ⟨W2, hW2⟩ : ∃ x, x = wr := ⟨_, rfl⟩
    subst hW2
    obtain ⟨j, hj, rfl, HM, HG⟩ := hrel
    cases j with
    | zero =>
      have e0 : ((0 : Nat) : Int) - 1 = -1 := rfl
      rw [e0]
      go_wp2_with fail
      exact bodyPost_ret (v := .tuple #[.pointer (some ⟨s, 0, none⟩), .int .i64 0]) (by simp [results, Try.results60, go_sem]) rfl (by
        obtain ⟨m', h1, h2, h3⟩ := HM.out
        exact ⟨⟨s, ab, ag, ac, lb, lg, lc, hb, hg, hc⟩, m', rfl, h1, init_good h2, ⟨rfl, rfl, rfl⟩, h3, HLO.out, HG.out⟩)
    | succ j =>
      have e0 : ((j + 1 : Nat) : Int) - 1 = (j : Int) := by omega
      rw [e0]
      have k0 : (0 : Int) ≤ j := by omega
      have HC2 : Hid (Calls Try.prog 95 #[.pointer (some ⟨s, 0, none⟩), .int .i64 j] W2 fun e w'' => e = .returned (.tuple #[]) ∧ ∃ m', SlAt w'' ⟨s, ab, ag, ac, lb, lg, lc, hb, hg, hc⟩ m' ∧ InitS m' P Z N j ∧ (m'.key = key ∧ m'.cl = cl ∧ m'.ow = ow ∧ m'.L.length = L.length) ∧ GrowX W2 w'' (fun i => i = s ∨ i = ag)) := Lib.hid (by
        obtain ⟨m', h1, h2, h3, h4, h5, h6⟩ := HM.out
        refine (HJ.out _ m' j W2 h1 h2 (by omega)).mono ?_
        rintro e w'' ⟨rfl, m2, q1, q2, ⟨q3, q4, q5, q6⟩, q7⟩
        exact ⟨rfl, m2, q1, q2, ⟨q3.trans h3, q4.trans h4, q5.trans h5, q6.trans h6⟩, q7⟩)
      clear e0 HM
      go_wp2_with fail
      refine HC2.out.mono ?_
      rintro e w5 ⟨rfl, hm5, m1, m2, m3, hg5⟩
      have HM5 : Hid (∃ m', SlAt w5 ⟨s, ab, ag, ac, lb, lg, lc, hb, hg, hc⟩ m' ∧ InitS m' P Z N j ∧ (m'.key = key ∧ m'.cl = cl ∧ m'.ow = ow ∧ m'.L.length = L.length)) := Lib.hid ⟨hm5, m1, m2, m3⟩
      have HG5 : Hid (GrowX w w5 (fun j => j = ag)) := Lib.hid (gx_trans HG.out hg5 (fun _ _ q => q) (fun i hi q => by
        rcases q with q | q
        · have := HLO.out.1; omega
        · exact q))
      clear m1 m2 m3 hg5
      go_wp2_with fail
      go_roundw
      case rel => exact ⟨j, by omega, by first | rfl | go_num, HM5, HG5⟩
      case measure => simp [intOf] <;> omega
theorem snil_take (w : World) : Calls Try.prog 51 #[.pointer none] w fun e w' => e = .returned (.tuple #[.int .i64 0, .int .i64 2]) ∧ w = w' := by
  go_enter Try.func51, Try.ntmps51
  go_wp2_with fail
  exact bodyPost_ret (v := .tuple #[.int .i64 0, .int .i64 2]) (by simp [results, Try.results51, go_sem]) rfl ⟨rfl, rfl⟩
theorem snil_must (k s : Int) (w : World) : Calls Try.prog 92 #[.pointer none, .int .i64 k, .int .i64 s] w fun e w' => e = .returned (.int .i64 2) ∧ w = w' := by
  go_enter Try.func92, Try.ntmps92
  go_wp2_with fail
  go_ret
  exact ⟨rfl, rfl⟩
theorem snil_drop (k : Int) (w : World) : Calls Try.prog 52 #[.pointer none, .int .i64 k] w fun e w' => e = .returned (.tuple #[.bool false, .int .i64 2]) ∧ w = w' := by
  go_enter Try.func52, Try.ntmps52
  go_wp2_with fail
  refine (snil_must k 1 _).mono ?_
  rintro e w1 ⟨rfl, rfl⟩
  go_wp2_with fail
  exact bodyPost_ret (v := .tuple #[.bool false, .int .i64 2]) (by simp [results, Try.results52, go_sem]) rfl ⟨rfl, rfl⟩
theorem snil_give (k : Int) (w : World) : Calls Try.prog 53 #[.pointer none, .int .i64 k] w fun e w' => e = .returned (.int .i64 2) ∧ w = w' := by
  go_enter Try.func53, Try.ntmps53
  go_wp2_with fail
  refine (snil_must k 2 _).mono ?_
  rintro e w1 ⟨rfl, rfl⟩
  go_wp2_with fail
  go_ret
  exact ⟨rfl, rfl⟩
theorem snil_state (k : Int) (w : World) : Calls Try.prog 58 #[.pointer none, .int .i64 k] w fun e w' => e = .returned (.int .i64 (-1)) ∧ w = w' := by
  go_enter Try.func58, Try.ntmps58
  go_wp2_with fail
  go_ret
  exact ⟨rfl, rfl⟩
theorem snil_count (k : Int) (w : World) : Calls Try.prog 57 #[.pointer none, .int .i64 k] w fun e w' => e = .returned (.int .i64 0) ∧ w = w' := by
  go_enter Try.func57, Try.ntmps57
  go_wp2_with fail
  go_ret
  exact ⟨rfl, rfl⟩
theorem snil_check (w : World) : Calls Try.prog 54 #[.pointer none] w fun e w' => e = .returned (.int .i64 2) ∧ w = w' := by
  go_enter Try.func54, Try.ntmps54
  go_wp2_with fail
  go_ret
  exact ⟨rfl, rfl⟩
theorem snil_page (w : World) : Calls Try.prog 62 #[.pointer none] w fun e w' => e = .returned (.int .i64 0) ∧ w = w' := by
  go_enter Try.func62, Try.ntmps62
  go_wp2_with fail
  go_ret
  exact ⟨rfl, rfl⟩
theorem snil_class (w : World) : Calls Try.prog 63 #[.pointer none] w fun e w' => e = .returned (.int .i64 0) ∧ w = w' := by
  go_enter Try.func63, Try.ntmps63
  go_wp2_with fail
  go_ret
  exact ⟨rfl, rfl⟩
theorem snil_owner (w : World) : Calls Try.prog 64 #[.pointer none] w fun e w' => e = .returned (.int .i64 0) ∧ w = w' := by
  go_enter Try.func64, Try.ntmps64
  go_wp2_with fail
  go_ret
  exact ⟨rfl, rfl⟩
end Go.Proofs.Ytgbbnmjfkhconaa
