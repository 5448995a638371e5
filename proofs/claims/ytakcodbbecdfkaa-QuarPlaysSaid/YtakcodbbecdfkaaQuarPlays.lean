/- QuarPlays' walk. No conditions. -/
import Derived.Test.YtakcodbbecdfkaaQuarLaw
import Derived.Test.YtakcodbbecdfkaaOpenRow
namespace Go.Proofs.Ytakcodbbecdfkaa
open Go.RowKit
set_option linter.unusedVariables false
set_option linter.unusedSimpArgs false
/-- A call: its kind, an address. -/
structure Op11 where
  k : Int
  a : Int
def op11 : Elt Op11 where
  cells := fun o => [.int .i64 o.k, .int .i64 o.a]
  size := 2
  pos := by decide
  len := fun _ => rfl
  one := fun r u hu => by
    simp only [List.mem_cons, List.not_mem_nil, or_false] at hu
    rcases hu with rfl | rfl <;> rfl
theorem op11_cells {w : World} {bl off : Nat} {ops : List Op11} (h4 : ∀ (k : Nat) (h : k < ops.length) (j : Nat), j < op11.size → w.cell? ⟨bl, off + (k * op11.size + j), none⟩ = (op11.cells ops[k])[j]?) (k : Nat) (hk : k < ops.length) :
    w.cell? ⟨bl, off + k * 2, none⟩ = some (.int .i64 ops[k].k) ∧ w.cell? ⟨bl, off + k * 2 + 1, none⟩ = some (.int .i64 ops[k].a) := by
  refine ⟨h4 k hk 0 (by decide), ?_⟩
  rw [Nat.add_assoc]; exact h4 k hk 1 (by decide)
/-- What is between two calls. -/
def QSt (w wr : World) (b m : Nat) (q : List Int) (v : Value) : Prop := QL wr b m q ∧ ReadI wr v q ∧ (∀ x, v.ownBlock = some x → x ≠ b) ∧ Below w.heap.size w wr
theorem qst_below {w wr w' : World} {b m : Nat} {q : List Int} {v : Value} (h : QSt w wr b m q v) (hb : Below wr.heap.size wr w') : QSt w w' b m q v := ⟨ql_below h.1 hb, readI_below h.2.1 hb, h.2.2.1, b_call h.2.2.2 hb⟩
theorem step_want {P : Program} {ops : Array Oper} {o : Oper} {a : Act} {K : Act → World → Prop} {Q : Exit → Act → World → Prop} {E : Prop} {w : World} (hw : Region.wanted o (yielded ops a.tmps) = true) (h : Oper.wp P o a w K Q) : if Region.wanted o (yielded ops a.tmps) = true then Oper.wp P o a w K Q else E := by rw [if_pos hw]; exact h
theorem ql_drew {w : World} {b m : Nat} {xs : List Int} (h : QL w b m xs) : QL w.drew b m xs := ql_below h (b_drew (Below.refl _ _))
theorem putL_le {m : Nat} {q : List Int} {x : Int} (h : q.length ≤ m) : (putL m q x).length ≤ m := by
  unfold putL; split <;> simp <;> omega
theorem readI_tl {w : World} {b o cap : Nat} {x : Int} {t : List Int} (h : ReadI w (.slice (some ⟨b, o, none⟩) (t.length + 1) cap) (x :: t)) : ReadI w (.slice (if cap = 1 then some ⟨b, o, none⟩ else some ⟨b, o + 1, none⟩) t.length (cap - 1)) t := by
  obtain ⟨a', c', e, h1, h2, h3, h4⟩ := h
  cases e
  obtain ⟨b', o', e, h5, h6⟩ := h4 (by simp)
  cases e
  simp only [List.length_cons] at h1
  refine ⟨_, _, rfl, by omega, by omega, fun hz => (by split at hz <;> cases hz), fun hp => ⟨b, o + 1, by rw [if_neg (by omega)], h5, fun i hi => ?_⟩⟩
  have := h6 (i + 1) (by simp; omega)
  rw [Nat.add_assoc, Nat.add_comm 1 i, this]; rfl
theorem mem_take_succ (xs : List Int) (x : Int) (k : Nat) (h : k < xs.length) : decide (x ∈ xs.take (k + 1)) = (decide (x ∈ xs.take k) || (xs.getD k 0 == x)) := by
  rw [← take_snocI xs k h]
  rw [Bool.eq_iff_iff]
  simp only [decide_eq_true_eq, Bool.or_eq_true, List.mem_append, List.mem_singleton, beq_iff_eq]
  constructor
  · rintro (h | h)
    · exact Or.inl h
    · exact Or.inr h.symm
  · rintro (h | h)
    · exact Or.inl h
    · exact Or.inr h.symm
set_option maxRecDepth 100000 in
set_option maxHeartbeats 8000000 in
theorem quarPlays_any (most : Int) (u : Value) (ops : List Op11) (w : World) (h : ReadR op11 w u ops) :
    Calls Try.prog 13 #[.int .i64 most, u] w fun e w' => e = .returned (.bool true) ∧ Below w.heap.size w w' := by
  obtain ⟨m, hm⟩ : ∃ m : Nat, (m : Int) = mostI most := ⟨(mostI most).toNat, Int.toNat_of_nonneg (mostI_bd most).1⟩
  have hm2 : (mostI most).toNat = m := by omega
  have hm64 : m ≤ 64 := by have := mostI_bd most; omega
  have HM := Lib.hid hm; have HM2 := Lib.hid hm2; clear hm hm2
  obtain ⟨a, cap, rfl, c1, c2, c3, c4⟩ := h
  have hcm := cap_le c2
  have H4 := Lib.hid c4
  have hlm : (ops.length : Int) ≤ 9223372036854775807 := by omega
  clear c4 c3
  go_enter Try.func13, Try.ntmps13
  go_wp2_with fail
  refine (qnew_any most _).mono ?_
  rintro e w1 ⟨rfl, q1, b1⟩
  rw [HM2.out] at q1
  obtain ⟨b, hb0⟩ : ∃ b, b = w.heap.size := ⟨_, rfl⟩
  rw [← hb0] at q1
  rw [← hb0]
  have hbw : w.heap.size ≤ b := by omega
  have P0 : Hid (QSt w w1 b m [] (.slice none 0 0)) := ⟨q1, readI_nil _, (fun x e => by cases e), b1⟩
  clear hb0 q1 b1
  go_wp2_with fail
  go_loopw [6, 22] (fun v i wr => ∃ (k : Nat) (q : List Int), k ≤ ops.length ∧ i = .int .i64 k ∧ Hid (QSt w wr b m q v)) (fun _ i _ => ops.length - (intOf i).toNat)
  case atStart => exact ⟨0, [], by omega, rfl, P0.out⟩
  case round =>
    obtain ⟨k, q, hk, rfl, hp⟩ := hrel
    obtain ⟨hq, hr, hv, hb⟩ := hp.out
    have hql : q.length ≤ m := by obtain ⟨_, _, _, _, h3, _⟩ := hq; exact h3
    have k0 : (0 : Int) ≤ k := by omega
    have lb := ql_lt hq
    have hmx := mostI_bd most
    by_cases hlt : k < ops.length
    · obtain ⟨bl, off, rfl, hbl, c4⟩ := H4.out (by omega)
      have k1 : (k : Int) < ops.length := by omega
      have hcs := op11_cells c4 k hlt
      rw [← (bcell hb).1 _ _ hbl, ← (bcell hb).1 _ _ hbl] at hcs
      generalize ops[k] = o at *
      obtain ⟨d0, d1⟩ := hcs
      obtain ⟨ka, x⟩ := o
      simp only at d0 d1
      clear c4
      have hB := b_alloc (Below.refl wr.heap.size wr) (.cells #[.int .i64 ka, .int .i64 x] 53)
      have BX := blk_new wr #[.int .i64 ka, .int .i64 x] 53
      have HBX := Lib.hid BX; clear BX
      have HQ1 := Lib.hid (qst_below hp.out hB)
      clear hp hq hr
      by_cases hk150 : k < 150
      · have kd : decide ((150 : Int) ≤ k) = false := decide_eq_false (by omega)
        clear hb
        by_cases h012 : ka = 0 ∨ ka = 1 ∨ ka = 2
        · rcases h012 with rfl | rfl | rfl
          · obtain ⟨g, hg⟩ : ∃ g, g = wr.heap.size := ⟨_, rfl⟩
            obtain ⟨w2, hw2⟩ : ∃ w2, w2 = wr.alloc (.cells #[.int .i64 0, .int .i64 x] 53) := ⟨_, rfl⟩
            go_upto_region 11 with fail
            rw [← hw2] at HQ1
            rw [← hw2, ← hg] at HBX
            rw [← hw2, ← hg]
            have hbg : b ≠ g := by omega
            have hsx := (blk2 HBX.out)
            obtain ⟨s0, s1, sf⟩ := hsx
            have hss := HBX.out.1
            obtain ⟨hq1, hr1, hv1, hb1⟩ := HQ1.out
            clear hw2 hg d0 d1 hB

            go_wp2_with fail
            refine (qput_any b m q x _ hq1).mono ?_
            rintro e w3 ⟨rfl, hq3, hg3⟩
            have hr3 : ReadI w3 u6 q := readI_kept hr1 (fun y hy hlt => hg3.block y hlt (fun e => hv y hy (by cases e; rfl))) hg3.size
            have hsx3 : w3.cell? ⟨g, 1, none⟩ = some (.int .i64 x) := (hg3.cell_far _ hss (fun e => hbg (by cases e; rfl))).trans s1
            have hss3 : g < w3.heap.size := Nat.lt_of_lt_of_le hss hg3.size
            have hb3 := b_gb hb1 hg3 hbw
            clear s0 s1 sf
            go_upto_region 12 with fail
            go_region_held3 (fun w' => w'.cell? ⟨g, 1, none⟩ = some (.int .i64 x))
              (first | go_keep | (exact (hb4.cell (p := ⟨g, 1, none⟩) (by simpa using hss3)).trans (by simpa using hsx3)))
              (first
                | (go_at_call 26; refine (rqmost_any most _).mono ?_; rintro e w4 ⟨rfl, rfl⟩; rw [← HM.out])
                | (go_at_call 42; refine (rqput_any u6 q m x _ (by exact hr3) (by omega) hm64).mono ?_; rintro e w4 ⟨v4, rfl, hr4, hv4, hb4⟩))
            have hb4' : Below w.heap.size w w4 := b_call (b_drew hb3) hb4
            have hq4 : QL w4 b m (putL m q x) := ql_below (ql_drew hq3) hb4
            have hr4u : ReadI w4 u6 q := readI_below (readI_drew hr3) hb4
            have hv4b : ∀ y, v4.ownBlock = some y → y ≠ b := fun y hy e => by have h1 := hv4 y hy; have h2 := ql_lt hq3; simp at h1; omega
            have hsx4 : w4.cell? ⟨g, 1, none⟩ = some (.int .i64 x) := (hb4.cell (p := ⟨g, 1, none⟩) (by simpa using hss3)).trans (by simpa using hsx3)
            have hss4 : g < w4.heap.size := Nat.lt_of_lt_of_le hss3 hb4.size
            have P4 : Hid (QSt w w4 b m (putL m q x) v4) := ⟨hq4, hr4, hv4b, hb4'⟩
            obtain ⟨a4, cap4, rfl⟩ := readI_len hr4
            have hpl := putL_le (x := x) hql
            have HPL := Lib.hid hpl
            clear hq4 hr4 hb3 hq3 hr3 hsx3 hss3 hg3 hb4 hq1 hr1 hpl hv4 hv4b
            cases hpb : putB m q with
            | false =>
              as_aux_lemma =>
                have hn : putN m q = 0 := by unfold putN; rw [hpb]; rfl
                have ho : putO m q x = 0 := by unfold putO; rw [if_pos (by unfold putB at hpb; simpa using hpb)]
                go_upto_region 13 with fail
                refine wp_region_over_lit (by kernel_rfl) (by kernel_rfl) ?_
                repeat (first | go_big_quiet_step (fail) | quiet_step (fail))
                refine wpQuiet_nil ?_
                intro w6 hb6; replace hb6 := over_elim hb6; obtain ⟨hc6, hf6⟩ := bcell hb6; have hz6 := hb6.size; try simp only [World.size_alloc, World.size_setCell, World.size_drew] at hz6
                have P6 := Lib.hid (qst_below P4.out hb6)
                clear hc6 hf6

                obtain ⟨hqT, hrT, hvT, hbT⟩ := P6.out
                have hlT : (putL m q x).length ≤ 64 := by have := HPL.out; omega
                have t0T : ((((putL m q x).length : Nat) : Int) != (((putL m q x).length : Nat) : Int)) = false := by simp
                have HLT := Lib.hid hlT
                have HLN := Lib.hid (qlen_list b m _ _ hqT)
                have HAL := Lib.hid (qall_any b m _ _ hqT)
                have HRT := Lib.hid hrT
                have LBT := Lib.hid hbT.size
                clear hqT hrT hvT hbT hlT
                go_wp2_with fail
                refine HLN.out.mono ?_
                rintro e wL ⟨rfl, rfl⟩
                go_wp2_with fail
                refine HAL.out.mono ?_
                rintro e wA ⟨vA, rfl, ownA, hbA⟩
                have hsm := same11_any vA _ _ _ wA (ownI_read ownA) (readI_below HRT.out hbA) (by have := HLT.out; omega) (by have := HLT.out; omega)
                rw [decide_eq_true rfl] at hsm
                have HSM := Lib.hid hsm
                have PA := Lib.hid (qst_below P6.out hbA)
                clear hsm ownA
                go_wp2_with fail
                refine HSM.out.mono ?_
                rintro e wS ⟨rfl, hbS⟩
                have PS := Lib.hid (qst_below PA.out hbS)
                go_wp2_with fail
                exact ⟨⟨k + 1, _, by omega, by go_num, PS⟩, by simp only [intOf]; omega⟩
            | true =>
              as_aux_lemma =>
                have hn : putN m q = 1 := by unfold putN; rw [hpb]; rfl
                have ho : putO m q x = (q ++ [x]).getD 0 0 := by unfold putO; rw [if_neg (by unfold putB at hpb; simpa using hpb)]; cases q <;> rfl
                have HO := Lib.hid ho; clear ho
                go_upto_region 13 with fail
                have HS : Hid (∀ w', Below w4.heap.size w4 w' → w'.cell? ⟨g, 1, none⟩ = some (.int .i64 x)) := Lib.hid (fun w' hb => (hb.cell (p := ⟨g, 1, none⟩) hss4).trans hsx4)
                refine wp_region_held_drew (S := (fun w' => w'.cell? ⟨g, 1, none⟩ = some (.int .i64 x))) (by kernel_rfl) (HS.out _ (b_drew (Below.refl _ _))) (fun hHeld => ?_)
                (refine wpAnyH_take (i := 0) (v := ?_) rfl (by kernel_rfl) (by kernel_rfl) (by kernel_rfl) (fun _ _ _ h => h) (Or.inl ⟨by rfl, ?_⟩) hHeld ?_; rotate_left; (focus (intro w hSw; (try dsimp only at hSw); go_simp; try (with_reducible rfl))); (try simp only [Act.put, List.getElem_toArray, List.getElem_cons_succ, List.getElem_cons_zero, List.setIfInBounds_toArray, List.set_cons_zero, List.set_cons_succ]))
                (refine wpAnyH_take (i := 1) (v := ?_) rfl (by kernel_rfl) (by kernel_rfl) (by kernel_rfl) (fun _ _ _ h => h) (Or.inl ⟨by rfl, ?_⟩) hHeld ?_; rotate_left; (focus (intro w hSw; (try dsimp only at hSw); go_simp; try (with_reducible rfl))); (try simp only [Act.put, List.getElem_toArray, List.getElem_cons_succ, List.getElem_cons_zero, List.setIfInBounds_toArray, List.set_cons_zero, List.set_cons_succ]))
                (refine wpAnyH_take (i := 2) (v := ?_) rfl (by kernel_rfl) (by kernel_rfl) (by kernel_rfl) (fun _ _ _ h => h) (Or.inl ⟨by rfl, ?_⟩) hHeld ?_; rotate_left; (focus (intro w hSw; (try dsimp only at hSw); go_simp; try (with_reducible rfl))); (try simp only [Act.put, List.getElem_toArray, List.getElem_cons_succ, List.getElem_cons_zero, List.setIfInBounds_toArray, List.set_cons_zero, List.set_cons_succ]))
                (refine wpAnyH_take (i := 3) (v := ?_) rfl (by kernel_rfl) (by kernel_rfl) (by kernel_rfl) (fun _ _ _ h => h) (Or.inl ⟨by rfl, ?_⟩) hHeld ?_; rotate_left; (focus (intro w hSw; (try dsimp only at hSw); go_simp; try (with_reducible rfl))); (try simp only [Act.put, List.getElem_toArray, List.getElem_cons_succ, List.getElem_cons_zero, List.setIfInBounds_toArray, List.set_cons_zero, List.set_cons_succ]))
                (refine wpAnyH_take (i := 4) (v := ?_) rfl (by kernel_rfl) (by kernel_rfl) (by kernel_rfl) (fun _ _ _ h => h) (Or.inl ⟨by rfl, ?_⟩) hHeld ?_; rotate_left; (focus (intro w hSw; (try dsimp only at hSw); go_simp; try (with_reducible rfl))); (try simp only [Act.put, List.getElem_toArray, List.getElem_cons_succ, List.getElem_cons_zero, List.setIfInBounds_toArray, List.set_cons_zero, List.set_cons_succ]))
                (refine wpAnyH_take (i := 5) (v := ?_) rfl (by kernel_rfl) (by kernel_rfl) (by kernel_rfl) (fun _ _ _ h => h) (Or.inl ⟨by rfl, ?_⟩) hHeld ?_; rotate_left; (focus (intro w hSw; (try dsimp only at hSw); go_simp; try (with_reducible rfl))); (try simp only [Act.put, List.getElem_toArray, List.getElem_cons_succ, List.getElem_cons_zero, List.setIfInBounds_toArray, List.set_cons_zero, List.set_cons_succ]))
                (refine wpAnyH_take (i := 6) (v := ?_) rfl (by kernel_rfl) (by kernel_rfl) (by kernel_rfl) (fun _ _ _ h => h) (Or.inl ⟨by rfl, ?_⟩) hHeld ?_; rotate_left; (focus (intro w hSw; (try dsimp only at hSw); go_simp; try (with_reducible rfl))); (try simp only [Act.put, List.getElem_toArray, List.getElem_cons_succ, List.getElem_cons_zero, List.setIfInBounds_toArray, List.set_cons_zero, List.set_cons_succ]))
                (refine wpAnyH_take (i := 7) (v := ?_) rfl (by kernel_rfl) (by kernel_rfl) (by kernel_rfl) (fun _ _ _ h => h) (Or.inl ⟨by rfl, ?_⟩) hHeld ?_; rotate_left; (focus (intro w hSw; (try dsimp only at hSw); go_simp; try (with_reducible rfl))); (try simp only [Act.put, List.getElem_toArray, List.getElem_cons_succ, List.getElem_cons_zero, List.setIfInBounds_toArray, List.set_cons_zero, List.set_cons_succ]))
                (refine wpAnyH_take (i := 9) (v := ?_) rfl (by kernel_rfl) (by kernel_rfl) (by kernel_rfl) (fun _ _ _ h => h) (Or.inl ⟨by rfl, ?_⟩) hHeld ?_; rotate_left; (focus (intro w hSw; (try dsimp only at hSw); go_simp; try (with_reducible rfl))); (try simp only [Act.put, List.getElem_toArray, List.getElem_cons_succ, List.getElem_cons_zero, List.setIfInBounds_toArray, List.set_cons_zero, List.set_cons_succ]))
                (refine wpAnyH_take (i := 11) (v := ?_) rfl (by kernel_rfl) (by kernel_rfl) (by kernel_rfl) (fun _ _ _ h => h) (Or.inl ⟨by rfl, ?_⟩) hHeld ?_; rotate_left; (focus (intro w hSw; (try dsimp only at hSw); go_simp; try (with_reducible rfl))); (try simp only [Act.put, List.getElem_toArray, List.getElem_cons_succ, List.getElem_cons_zero, List.setIfInBounds_toArray, List.set_cons_zero, List.set_cons_succ]))
                (refine wpAnyH_take (i := 12) (v := ?_) rfl (by kernel_rfl) (by kernel_rfl) (by kernel_rfl) (fun _ _ _ h => h) (Or.inl ⟨by rfl, ?_⟩) hHeld ?_; rotate_left; (focus (intro w hSw; (try dsimp only at hSw); go_simp; try (with_reducible rfl))); (try simp only [Act.put, List.getElem_toArray, List.getElem_cons_succ, List.getElem_cons_zero, List.setIfInBounds_toArray, List.set_cons_zero, List.set_cons_succ]))
                refine wpAnyH_ready (rs := [8, 13]) (by kernel_rfl) (by simp) (AllReadyH.cons rfl (fun K hK => ?_) (AllReadyH.cons rfl (fun K hK => ?_) AllReadyH.nil))
                · go_simp
                  refine hK.out _ _ (HS.out _ (by (repeat' (first | exact Below.refl _ _ | assumption | refine b_alloc ?_ _ | refine b_over ?_ _ | refine b_drew ?_ | refine b_call ?_ (by assumption))))) (fun hHeld => ?_)
                  clear hK K
                  (try simp only [Act.put, List.getElem_toArray, List.getElem_cons_succ, List.getElem_cons_zero, List.setIfInBounds_toArray, List.set_cons_zero, List.set_cons_succ])
                  refine wpAnyH_ready (rs := [10, 13]) (by kernel_rfl) (by simp) (AllReadyH.cons rfl (fun K hK => ?_) (AllReadyH.cons rfl (fun K hK => ?_) AllReadyH.nil))
                  · have own0 : OwnI (w4.alloc (.cells #[] 3)).drew w4.heap.size (.slice (some ⟨w4.heap.size, 0, none⟩) 0 0) [] := ownI_drew (own_empty (Nat.le_refl _))
                    have hB0 : Below w4.heap.size w4 (w4.alloc (.cells #[] 3)).drew := b_drew (b_alloc (Below.refl _ _) _)
                    refine step_want (by kernel_rfl) ?_
                    refine wp_appendI _ _ (by rfl) w4.heap.size _ [] (by rfl) own0 _ q (by rfl) (readI_below hr4u hB0) (by simp; omega) hB0.size (fun v5 w5 own5 hg5 => ?_)
                    rw [List.nil_append] at own5
                    have hB5' : Below w4.heap.size w4 w5 := b_own hB0 own0 hg5
                    refine hK.out _ _ (HS.out _ hB5') (fun hHeld => ?_)
                    clear hK K
                    (try simp only [Act.put, List.getElem_toArray, List.getElem_cons_succ, List.getElem_cons_zero, List.setIfInBounds_toArray, List.set_cons_zero, List.set_cons_succ])
                    refine wpAnyH_ready (rs := [13]) (by kernel_rfl) (by simp) (AllReadyH.cons rfl (fun K hK => ?_) AllReadyH.nil)
                    go_simp
                    refine hK.out _ _ (HS.out _ (by first | exact b_drew (b_alloc hB5' _) | exact b_alloc hB5' _)) (fun hHeld => ?_)
                    clear hK K
                    (try simp only [Act.put, List.getElem_toArray, List.getElem_cons_succ, List.getElem_cons_zero, List.setIfInBounds_toArray, List.set_cons_zero, List.set_cons_succ])
                    have hB5 : Below w4.heap.size w4 (w5.alloc (.cells #[.int .i64 x] 3)) := b_alloc hB5' _
                    replace own5 := ownI_alloc own5 (.cells #[.int .i64 x] 3)
                    have rx := read_one w5 x
                    refine wpAnyH_ready (rs := [14]) (by kernel_rfl) (by simp) (AllReadyH.cons rfl (fun K hK => ?_) AllReadyH.nil)
                    refine step_want (by kernel_rfl) ?_
                    refine wp_appendI _ _ (by rfl) w4.heap.size _ q (by rfl) own5 _ [x] (by rfl) rx (by simp; omega) hB5.size (fun v6 w6 own6 hg6 => ?_)
                    have hB6 : Below w4.heap.size w4 w6 := b_own hB5 own5 hg6
                    obtain ⟨g6, cap6, hv6, f1, f2, f3, f4, f5, f6⟩ := ownI_form own6 (by simp)
                    rw [hv6]
                    clear own6 hv6 hg6
                    refine hK.out _ _ (HS.out _ hB6) (fun hHeld => ?_)
                    clear hK K
                    (try simp only [Act.put, List.getElem_toArray, List.getElem_cons_succ, List.getElem_cons_zero, List.setIfInBounds_toArray, List.set_cons_zero, List.set_cons_succ])
                    have H6 : Hid (∀ w', Below w6.heap.size w6 w' → w'.cell? ⟨g6, 0, none⟩ = some (.int .i64 (putO m q x))) := Lib.hid (fun w' hb => by rw [HO.out]; exact (hb.cell (p := ⟨g6, 0, none⟩) f2).trans (f5 0 (by simp)))
                    clear f5 f6
                    refine wpAnyH_switch (S' := (fun w' => w'.cell? ⟨g, 1, none⟩ = some (.int .i64 x) ∧ w'.cell? ⟨g6, 0, none⟩ = some (.int .i64 (putO m q x)))) (fun _ h => h.1) ⟨HS.out _ (by first | exact hB6 | exact b_drew hB6), H6.out _ (by (repeat' (first | exact Below.refl _ _ | assumption | refine b_alloc ?_ _ | refine b_over ?_ _ | refine b_drew ?_ | refine b_call ?_ (by assumption))))⟩ (fun hHeld => ?_)
                    have tl1 : (0 : Int) < ((q ++ [x]).length : Int) := by simp
                    (refine wpAnyH_take (i := 15) (v := ?_) rfl (by kernel_rfl) (by kernel_rfl) (by kernel_rfl) (fun _ _ _ h => h) (Or.inl ⟨by rfl, ?_⟩) hHeld ?_; rotate_left; (focus (intro w hSw; (try dsimp only at hSw); go_simp; try (with_reducible rfl))); (try simp only [Act.put, List.getElem_toArray, List.getElem_cons_succ, List.getElem_cons_zero, List.setIfInBounds_toArray, List.set_cons_zero, List.set_cons_succ]))
                    (refine wpAnyH_take (i := 16) (v := ?_) rfl (by kernel_rfl) (by kernel_rfl) (by kernel_rfl) (fun _ _ _ h => h) (Or.inl ⟨by rfl, ?_⟩) hHeld ?_; rotate_left; (focus (intro w hSw; (try dsimp only at hSw); go_simp; try (with_reducible rfl))); (try simp only [Act.put, List.getElem_toArray, List.getElem_cons_succ, List.getElem_cons_zero, List.setIfInBounds_toArray, List.set_cons_zero, List.set_cons_succ]))
                    (refine wpAnyH_take (i := 17) (v := ?_) rfl (by kernel_rfl) (by kernel_rfl) (by kernel_rfl) (fun _ _ _ h => h) (Or.inl ⟨by rfl, ?_⟩) hHeld ?_; rotate_left; (focus (intro w hSw; (try dsimp only at hSw); go_simp; try (with_reducible rfl))); (try simp only [Act.put, List.getElem_toArray, List.getElem_cons_succ, List.getElem_cons_zero, List.setIfInBounds_toArray, List.set_cons_zero, List.set_cons_succ]))
                    (refine wpAnyH_take (i := 18) (v := ?_) rfl (by kernel_rfl) (by kernel_rfl) (by kernel_rfl) (fun _ _ _ h => h) (Or.inl ⟨by rfl, ?_⟩) hHeld ?_; rotate_left; (focus (intro w hSw; (try dsimp only at hSw); go_simp; try (with_reducible rfl))); (try simp only [Act.put, List.getElem_toArray, List.getElem_cons_succ, List.getElem_cons_zero, List.setIfInBounds_toArray, List.set_cons_zero, List.set_cons_succ]))
                    (refine wpAnyH_take (i := 19) (v := ?_) rfl (by kernel_rfl) (by kernel_rfl) (by kernel_rfl) (fun _ _ _ h => h) (Or.inl ⟨by rfl, ?_⟩) hHeld ?_; rotate_left; (focus (intro w hSw; (try dsimp only at hSw); go_simp; try (with_reducible rfl))); (try simp only [Act.put, List.getElem_toArray, List.getElem_cons_succ, List.getElem_cons_zero, List.setIfInBounds_toArray, List.set_cons_zero, List.set_cons_succ]))
                    (refine wpAnyH_take (i := 20) (v := ?_) rfl (by kernel_rfl) (by kernel_rfl) (by kernel_rfl) (fun _ _ _ h => h) (Or.inl ⟨by rfl, ?_⟩) hHeld ?_; rotate_left; (focus (intro w hSw; (try dsimp only at hSw); go_simp; try (with_reducible rfl))); (try simp only [Act.put, List.getElem_toArray, List.getElem_cons_succ, List.getElem_cons_zero, List.setIfInBounds_toArray, List.set_cons_zero, List.set_cons_succ]))
                    (refine wpAnyH_take (i := 21) (v := ?_) rfl (by kernel_rfl) (by kernel_rfl) (by kernel_rfl) (fun _ _ _ h => h) (Or.inl ⟨by rfl, ?_⟩) hHeld ?_; rotate_left; (focus (intro w hSw; (try dsimp only at hSw); go_simp; try (with_reducible rfl))); (try simp only [Act.put, List.getElem_toArray, List.getElem_cons_succ, List.getElem_cons_zero, List.setIfInBounds_toArray, List.set_cons_zero, List.set_cons_succ]))
                    (refine wpAnyH_take (i := 22) (v := ?_) rfl (by kernel_rfl) (by kernel_rfl) (by kernel_rfl) (fun _ _ _ h => h) (Or.inl ⟨by rfl, ?_⟩) hHeld ?_; rotate_left; (focus (intro w hSw; (try dsimp only at hSw); go_simp; try (with_reducible rfl))); (try simp only [Act.put, List.getElem_toArray, List.getElem_cons_succ, List.getElem_cons_zero, List.setIfInBounds_toArray, List.set_cons_zero, List.set_cons_succ]))
                    (refine wpAnyH_take (i := 23) (v := ?_) rfl (by kernel_rfl) (by kernel_rfl) (by kernel_rfl) (fun _ _ _ h => h) (Or.inl ⟨by rfl, ?_⟩) hHeld ?_; rotate_left; (focus (intro w hSw; (try dsimp only at hSw); go_simp; try (with_reducible rfl))); (try simp only [Act.put, List.getElem_toArray, List.getElem_cons_succ, List.getElem_cons_zero, List.setIfInBounds_toArray, List.set_cons_zero, List.set_cons_succ]))
                    (refine wpAnyH_take (i := 24) (v := _) rfl (by kernel_rfl) (by kernel_rfl) (by kernel_rfl) (fun _ _ _ h => h) (Or.inr ⟨by rfl, rfl⟩) hHeld ?_; (try simp only [Act.put, List.getElem_toArray, List.getElem_cons_succ, List.getElem_cons_zero, List.setIfInBounds_toArray, List.set_cons_zero, List.set_cons_succ]))
                    (refine wpAnyH_take (i := 25) (v := _) rfl (by kernel_rfl) (by kernel_rfl) (by kernel_rfl) (fun _ _ _ h => h) (Or.inr ⟨by rfl, rfl⟩) hHeld ?_; (try simp only [Act.put, List.getElem_toArray, List.getElem_cons_succ, List.getElem_cons_zero, List.setIfInBounds_toArray, List.set_cons_zero, List.set_cons_succ]))
                    (refine wpAnyH_take (i := 26) (v := ?_) rfl (by kernel_rfl) (by kernel_rfl) (by kernel_rfl) (fun _ _ _ h => h) (Or.inl ⟨by rfl, ?_⟩) hHeld ?_; rotate_left; (focus (intro w hSw; (try dsimp only at hSw); go_simp; try (with_reducible rfl))); (try simp only [Act.put, List.getElem_toArray, List.getElem_cons_succ, List.getElem_cons_zero, List.setIfInBounds_toArray, List.set_cons_zero, List.set_cons_succ]))
                    (refine wpAnyH_take (i := 27) (v := ?_) rfl (by kernel_rfl) (by kernel_rfl) (by kernel_rfl) (fun _ _ _ h => h) (Or.inl ⟨by rfl, ?_⟩) hHeld ?_; rotate_left; (focus (intro w hSw; (try dsimp only at hSw); go_simp; try (with_reducible rfl))); (try simp only [Act.put, List.getElem_toArray, List.getElem_cons_succ, List.getElem_cons_zero, List.setIfInBounds_toArray, List.set_cons_zero, List.set_cons_succ]))
                    refine wpAnyH_done (by kernel_rfl) ?_ _
                    have P6 := Lib.hid (qst_below P4.out hB6)
                    clear hHeld own5 rx hB5 H6 HS f1 f2 f3 f4 tl1

                    obtain ⟨hqT, hrT, hvT, hbT⟩ := P6.out
                    have hlT : (putL m q x).length ≤ 64 := by have := HPL.out; omega
                    have t0T : ((((putL m q x).length : Nat) : Int) != (((putL m q x).length : Nat) : Int)) = false := by simp
                    have HLT := Lib.hid hlT
                    have HLN := Lib.hid (qlen_list b m _ _ hqT)
                    have HAL := Lib.hid (qall_any b m _ _ hqT)
                    have HRT := Lib.hid hrT
                    have LBT := Lib.hid hbT.size
                    clear hqT hrT hvT hbT hlT
                    go_wp2_with fail
                    refine HLN.out.mono ?_
                    rintro e wL ⟨rfl, rfl⟩
                    go_wp2_with fail
                    refine HAL.out.mono ?_
                    rintro e wA ⟨vA, rfl, ownA, hbA⟩
                    have hsm := same11_any vA _ _ _ wA (ownI_read ownA) (readI_below HRT.out hbA) (by have := HLT.out; omega) (by have := HLT.out; omega)
                    rw [decide_eq_true rfl] at hsm
                    have HSM := Lib.hid hsm
                    have PA := Lib.hid (qst_below P6.out hbA)
                    clear hsm ownA
                    go_wp2_with fail
                    refine HSM.out.mono ?_
                    rintro e wS ⟨rfl, hbS⟩
                    have PS := Lib.hid (qst_below PA.out hbS)
                    go_wp2_with fail
                    exact ⟨⟨k + 1, _, by omega, by go_num, PS⟩, by simp only [intOf]; omega⟩
                  · go_simp
                    refine hK.out _ _ (HS.out _ (by (repeat' (first | exact Below.refl _ _ | assumption | refine b_alloc ?_ _ | refine b_over ?_ _ | refine b_drew ?_ | refine b_call ?_ (by assumption))))) (fun hHeld => ?_)
                    clear hK K
                    (try simp only [Act.put, List.getElem_toArray, List.getElem_cons_succ, List.getElem_cons_zero, List.setIfInBounds_toArray, List.set_cons_zero, List.set_cons_succ])
                    have own0 : OwnI ((w4.alloc (.cells #[] 3)).alloc (.cells #[.int .i64 x] 3)).drew w4.heap.size (.slice (some ⟨w4.heap.size, 0, none⟩) 0 0) [] := ownI_drew (ownI_alloc (own_empty (Nat.le_refl _)) _)
                    have hB0 : Below w4.heap.size w4 ((w4.alloc (.cells #[] 3)).alloc (.cells #[.int .i64 x] 3)).drew := b_drew (b_alloc (b_alloc (Below.refl _ _) _) _)
                    have rx0 : ReadI ((w4.alloc (.cells #[] 3)).alloc (.cells #[.int .i64 x] 3)).drew (.slice (some ⟨w4.heap.size + 1, 0, none⟩) 1 1) [x] := by
                      have := read_one (w4.alloc (.cells #[] 3)) x
                      rw [World.size_alloc] at this
                      exact readI_drew this
                    refine wpAnyH_ready (rs := [10]) (by kernel_rfl) (by simp) (AllReadyH.cons rfl (fun K hK => ?_) AllReadyH.nil)
                    refine step_want (by kernel_rfl) ?_
                    refine wp_appendI _ _ (by rfl) w4.heap.size _ [] (by rfl) own0 _ q (by rfl) (readI_below hr4u hB0) (by simp; omega) hB0.size (fun v5 w5 own5 hg5 => ?_)
                    rw [List.nil_append] at own5
                    have hB5 : Below w4.heap.size w4 w5 := b_own hB0 own0 hg5
                    have rx : ReadI w5 (.slice (some ⟨w4.heap.size + 1, 0, none⟩) 1 1) [x] := readI_kept rx0 (fun y hy hlt => hg5.block y hlt (fun e => by have e1 : some y = some (w4.heap.size + 1) := hy.symm; have e2 : some y = some w4.heap.size := e; rw [e1] at e2; injection e2; omega)) hg5.size
                    clear rx0
                    refine hK.out _ _ (HS.out _ hB5) (fun hHeld => ?_)
                    clear hK K
                    (try simp only [Act.put, List.getElem_toArray, List.getElem_cons_succ, List.getElem_cons_zero, List.setIfInBounds_toArray, List.set_cons_zero, List.set_cons_succ])
                    refine wpAnyH_ready (rs := [14]) (by kernel_rfl) (by simp) (AllReadyH.cons rfl (fun K hK => ?_) AllReadyH.nil)
                    refine step_want (by kernel_rfl) ?_
                    refine wp_appendI _ _ (by rfl) w4.heap.size _ q (by rfl) own5 _ [x] (by rfl) rx (by simp; omega) hB5.size (fun v6 w6 own6 hg6 => ?_)
                    have hB6 : Below w4.heap.size w4 w6 := b_own hB5 own5 hg6
                    obtain ⟨g6, cap6, hv6, f1, f2, f3, f4, f5, f6⟩ := ownI_form own6 (by simp)
                    rw [hv6]
                    clear own6 hv6 hg6
                    refine hK.out _ _ (HS.out _ hB6) (fun hHeld => ?_)
                    clear hK K
                    (try simp only [Act.put, List.getElem_toArray, List.getElem_cons_succ, List.getElem_cons_zero, List.setIfInBounds_toArray, List.set_cons_zero, List.set_cons_succ])
                    have H6 : Hid (∀ w', Below w6.heap.size w6 w' → w'.cell? ⟨g6, 0, none⟩ = some (.int .i64 (putO m q x))) := Lib.hid (fun w' hb => by rw [HO.out]; exact (hb.cell (p := ⟨g6, 0, none⟩) f2).trans (f5 0 (by simp)))
                    clear f5 f6
                    refine wpAnyH_switch (S' := (fun w' => w'.cell? ⟨g, 1, none⟩ = some (.int .i64 x) ∧ w'.cell? ⟨g6, 0, none⟩ = some (.int .i64 (putO m q x)))) (fun _ h => h.1) ⟨HS.out _ (by first | exact hB6 | exact b_drew hB6), H6.out _ (by (repeat' (first | exact Below.refl _ _ | assumption | refine b_alloc ?_ _ | refine b_over ?_ _ | refine b_drew ?_ | refine b_call ?_ (by assumption))))⟩ (fun hHeld => ?_)
                    have tl1 : (0 : Int) < ((q ++ [x]).length : Int) := by simp
                    (refine wpAnyH_take (i := 15) (v := ?_) rfl (by kernel_rfl) (by kernel_rfl) (by kernel_rfl) (fun _ _ _ h => h) (Or.inl ⟨by rfl, ?_⟩) hHeld ?_; rotate_left; (focus (intro w hSw; (try dsimp only at hSw); go_simp; try (with_reducible rfl))); (try simp only [Act.put, List.getElem_toArray, List.getElem_cons_succ, List.getElem_cons_zero, List.setIfInBounds_toArray, List.set_cons_zero, List.set_cons_succ]))
                    (refine wpAnyH_take (i := 16) (v := ?_) rfl (by kernel_rfl) (by kernel_rfl) (by kernel_rfl) (fun _ _ _ h => h) (Or.inl ⟨by rfl, ?_⟩) hHeld ?_; rotate_left; (focus (intro w hSw; (try dsimp only at hSw); go_simp; try (with_reducible rfl))); (try simp only [Act.put, List.getElem_toArray, List.getElem_cons_succ, List.getElem_cons_zero, List.setIfInBounds_toArray, List.set_cons_zero, List.set_cons_succ]))
                    (refine wpAnyH_take (i := 17) (v := ?_) rfl (by kernel_rfl) (by kernel_rfl) (by kernel_rfl) (fun _ _ _ h => h) (Or.inl ⟨by rfl, ?_⟩) hHeld ?_; rotate_left; (focus (intro w hSw; (try dsimp only at hSw); go_simp; try (with_reducible rfl))); (try simp only [Act.put, List.getElem_toArray, List.getElem_cons_succ, List.getElem_cons_zero, List.setIfInBounds_toArray, List.set_cons_zero, List.set_cons_succ]))
                    (refine wpAnyH_take (i := 18) (v := ?_) rfl (by kernel_rfl) (by kernel_rfl) (by kernel_rfl) (fun _ _ _ h => h) (Or.inl ⟨by rfl, ?_⟩) hHeld ?_; rotate_left; (focus (intro w hSw; (try dsimp only at hSw); go_simp; try (with_reducible rfl))); (try simp only [Act.put, List.getElem_toArray, List.getElem_cons_succ, List.getElem_cons_zero, List.setIfInBounds_toArray, List.set_cons_zero, List.set_cons_succ]))
                    (refine wpAnyH_take (i := 19) (v := ?_) rfl (by kernel_rfl) (by kernel_rfl) (by kernel_rfl) (fun _ _ _ h => h) (Or.inl ⟨by rfl, ?_⟩) hHeld ?_; rotate_left; (focus (intro w hSw; (try dsimp only at hSw); go_simp; try (with_reducible rfl))); (try simp only [Act.put, List.getElem_toArray, List.getElem_cons_succ, List.getElem_cons_zero, List.setIfInBounds_toArray, List.set_cons_zero, List.set_cons_succ]))
                    (refine wpAnyH_take (i := 20) (v := ?_) rfl (by kernel_rfl) (by kernel_rfl) (by kernel_rfl) (fun _ _ _ h => h) (Or.inl ⟨by rfl, ?_⟩) hHeld ?_; rotate_left; (focus (intro w hSw; (try dsimp only at hSw); go_simp; try (with_reducible rfl))); (try simp only [Act.put, List.getElem_toArray, List.getElem_cons_succ, List.getElem_cons_zero, List.setIfInBounds_toArray, List.set_cons_zero, List.set_cons_succ]))
                    (refine wpAnyH_take (i := 21) (v := ?_) rfl (by kernel_rfl) (by kernel_rfl) (by kernel_rfl) (fun _ _ _ h => h) (Or.inl ⟨by rfl, ?_⟩) hHeld ?_; rotate_left; (focus (intro w hSw; (try dsimp only at hSw); go_simp; try (with_reducible rfl))); (try simp only [Act.put, List.getElem_toArray, List.getElem_cons_succ, List.getElem_cons_zero, List.setIfInBounds_toArray, List.set_cons_zero, List.set_cons_succ]))
                    (refine wpAnyH_take (i := 22) (v := ?_) rfl (by kernel_rfl) (by kernel_rfl) (by kernel_rfl) (fun _ _ _ h => h) (Or.inl ⟨by rfl, ?_⟩) hHeld ?_; rotate_left; (focus (intro w hSw; (try dsimp only at hSw); go_simp; try (with_reducible rfl))); (try simp only [Act.put, List.getElem_toArray, List.getElem_cons_succ, List.getElem_cons_zero, List.setIfInBounds_toArray, List.set_cons_zero, List.set_cons_succ]))
                    (refine wpAnyH_take (i := 23) (v := ?_) rfl (by kernel_rfl) (by kernel_rfl) (by kernel_rfl) (fun _ _ _ h => h) (Or.inl ⟨by rfl, ?_⟩) hHeld ?_; rotate_left; (focus (intro w hSw; (try dsimp only at hSw); go_simp; try (with_reducible rfl))); (try simp only [Act.put, List.getElem_toArray, List.getElem_cons_succ, List.getElem_cons_zero, List.setIfInBounds_toArray, List.set_cons_zero, List.set_cons_succ]))
                    (refine wpAnyH_take (i := 24) (v := _) rfl (by kernel_rfl) (by kernel_rfl) (by kernel_rfl) (fun _ _ _ h => h) (Or.inr ⟨by rfl, rfl⟩) hHeld ?_; (try simp only [Act.put, List.getElem_toArray, List.getElem_cons_succ, List.getElem_cons_zero, List.setIfInBounds_toArray, List.set_cons_zero, List.set_cons_succ]))
                    (refine wpAnyH_take (i := 25) (v := _) rfl (by kernel_rfl) (by kernel_rfl) (by kernel_rfl) (fun _ _ _ h => h) (Or.inr ⟨by rfl, rfl⟩) hHeld ?_; (try simp only [Act.put, List.getElem_toArray, List.getElem_cons_succ, List.getElem_cons_zero, List.setIfInBounds_toArray, List.set_cons_zero, List.set_cons_succ]))
                    (refine wpAnyH_take (i := 26) (v := ?_) rfl (by kernel_rfl) (by kernel_rfl) (by kernel_rfl) (fun _ _ _ h => h) (Or.inl ⟨by rfl, ?_⟩) hHeld ?_; rotate_left; (focus (intro w hSw; (try dsimp only at hSw); go_simp; try (with_reducible rfl))); (try simp only [Act.put, List.getElem_toArray, List.getElem_cons_succ, List.getElem_cons_zero, List.setIfInBounds_toArray, List.set_cons_zero, List.set_cons_succ]))
                    (refine wpAnyH_take (i := 27) (v := ?_) rfl (by kernel_rfl) (by kernel_rfl) (by kernel_rfl) (fun _ _ _ h => h) (Or.inl ⟨by rfl, ?_⟩) hHeld ?_; rotate_left; (focus (intro w hSw; (try dsimp only at hSw); go_simp; try (with_reducible rfl))); (try simp only [Act.put, List.getElem_toArray, List.getElem_cons_succ, List.getElem_cons_zero, List.setIfInBounds_toArray, List.set_cons_zero, List.set_cons_succ]))
                    refine wpAnyH_done (by kernel_rfl) ?_ _
                    have P6 := Lib.hid (qst_below P4.out hB6)
                    clear hHeld own5 rx hB5 H6 HS f1 f2 f3 f4 tl1

                    obtain ⟨hqT, hrT, hvT, hbT⟩ := P6.out
                    have hlT : (putL m q x).length ≤ 64 := by have := HPL.out; omega
                    have t0T : ((((putL m q x).length : Nat) : Int) != (((putL m q x).length : Nat) : Int)) = false := by simp
                    have HLT := Lib.hid hlT
                    have HLN := Lib.hid (qlen_list b m _ _ hqT)
                    have HAL := Lib.hid (qall_any b m _ _ hqT)
                    have HRT := Lib.hid hrT
                    have LBT := Lib.hid hbT.size
                    clear hqT hrT hvT hbT hlT
                    go_wp2_with fail
                    refine HLN.out.mono ?_
                    rintro e wL ⟨rfl, rfl⟩
                    go_wp2_with fail
                    refine HAL.out.mono ?_
                    rintro e wA ⟨vA, rfl, ownA, hbA⟩
                    have hsm := same11_any vA _ _ _ wA (ownI_read ownA) (readI_below HRT.out hbA) (by have := HLT.out; omega) (by have := HLT.out; omega)
                    rw [decide_eq_true rfl] at hsm
                    have HSM := Lib.hid hsm
                    have PA := Lib.hid (qst_below P6.out hbA)
                    clear hsm ownA
                    go_wp2_with fail
                    refine HSM.out.mono ?_
                    rintro e wS ⟨rfl, hbS⟩
                    have PS := Lib.hid (qst_below PA.out hbS)
                    go_wp2_with fail
                    exact ⟨⟨k + 1, _, by omega, by go_num, PS⟩, by simp only [intOf]; omega⟩
                · go_simp
                  refine hK.out _ _ (HS.out _ (by (repeat' (first | exact Below.refl _ _ | assumption | refine b_alloc ?_ _ | refine b_over ?_ _ | refine b_drew ?_ | refine b_call ?_ (by assumption))))) (fun hHeld => ?_)
                  clear hK K
                  (try simp only [Act.put, List.getElem_toArray, List.getElem_cons_succ, List.getElem_cons_zero, List.setIfInBounds_toArray, List.set_cons_zero, List.set_cons_succ])
                  refine wpAnyH_ready (rs := [8]) (by kernel_rfl) (by simp) (AllReadyH.cons rfl (fun K hK => ?_) AllReadyH.nil)
                  go_simp
                  refine hK.out _ _ (HS.out _ (by (repeat' (first | exact Below.refl _ _ | assumption | refine b_alloc ?_ _ | refine b_over ?_ _ | refine b_drew ?_ | refine b_call ?_ (by assumption))))) (fun hHeld => ?_)
                  clear hK K
                  (try simp only [Act.put, List.getElem_toArray, List.getElem_cons_succ, List.getElem_cons_zero, List.setIfInBounds_toArray, List.set_cons_zero, List.set_cons_succ])
                  have own0 : OwnI ((w4.alloc (.cells #[.int .i64 x] 3)).alloc (.cells #[] 3)).drew w4.heap.size (.slice (some ⟨w4.heap.size + 1, 0, none⟩) 0 0) [] := by
                    have := own_empty (w := w4.alloc (.cells #[.int .i64 x] 3)) (B := w4.heap.size) (by simp)
                    rw [World.size_alloc] at this
                    exact ownI_drew this
                  have hB0 : Below w4.heap.size w4 ((w4.alloc (.cells #[.int .i64 x] 3)).alloc (.cells #[] 3)).drew := b_drew (b_alloc (b_alloc (Below.refl _ _) _) _)
                  have rx0 : ReadI ((w4.alloc (.cells #[.int .i64 x] 3)).alloc (.cells #[] 3)).drew (.slice (some ⟨w4.heap.size, 0, none⟩) 1 1) [x] := readI_drew (readI_below (read_one w4 x) (b_alloc (Below.refl _ _) _))
                  refine wpAnyH_ready (rs := [10]) (by kernel_rfl) (by simp) (AllReadyH.cons rfl (fun K hK => ?_) AllReadyH.nil)
                  refine step_want (by kernel_rfl) ?_
                  refine wp_appendI _ _ (by rfl) w4.heap.size _ [] (by rfl) own0 _ q (by rfl) (readI_below hr4u hB0) (by simp; omega) hB0.size (fun v5 w5 own5 hg5 => ?_)
                  rw [List.nil_append] at own5
                  have hB5 : Below w4.heap.size w4 w5 := b_own hB0 own0 hg5
                  have rx : ReadI w5 (.slice (some ⟨w4.heap.size, 0, none⟩) 1 1) [x] := readI_kept rx0 (fun y hy hlt => hg5.block y hlt (fun e => by have e1 : some y = some w4.heap.size := hy.symm; have e2 : some y = some (w4.heap.size + 1) := e; rw [e1] at e2; injection e2; omega)) hg5.size
                  clear rx0
                  refine hK.out _ _ (HS.out _ hB5) (fun hHeld => ?_)
                  clear hK K
                  (try simp only [Act.put, List.getElem_toArray, List.getElem_cons_succ, List.getElem_cons_zero, List.setIfInBounds_toArray, List.set_cons_zero, List.set_cons_succ])
                  refine wpAnyH_ready (rs := [14]) (by kernel_rfl) (by simp) (AllReadyH.cons rfl (fun K hK => ?_) AllReadyH.nil)
                  refine step_want (by kernel_rfl) ?_
                  refine wp_appendI _ _ (by rfl) w4.heap.size _ q (by rfl) own5 _ [x] (by rfl) rx (by simp; omega) hB5.size (fun v6 w6 own6 hg6 => ?_)
                  have hB6 : Below w4.heap.size w4 w6 := b_own hB5 own5 hg6
                  obtain ⟨g6, cap6, hv6, f1, f2, f3, f4, f5, f6⟩ := ownI_form own6 (by simp)
                  rw [hv6]
                  clear own6 hv6 hg6
                  refine hK.out _ _ (HS.out _ hB6) (fun hHeld => ?_)
                  clear hK K
                  (try simp only [Act.put, List.getElem_toArray, List.getElem_cons_succ, List.getElem_cons_zero, List.setIfInBounds_toArray, List.set_cons_zero, List.set_cons_succ])
                  have H6 : Hid (∀ w', Below w6.heap.size w6 w' → w'.cell? ⟨g6, 0, none⟩ = some (.int .i64 (putO m q x))) := Lib.hid (fun w' hb => by rw [HO.out]; exact (hb.cell (p := ⟨g6, 0, none⟩) f2).trans (f5 0 (by simp)))
                  clear f5 f6
                  refine wpAnyH_switch (S' := (fun w' => w'.cell? ⟨g, 1, none⟩ = some (.int .i64 x) ∧ w'.cell? ⟨g6, 0, none⟩ = some (.int .i64 (putO m q x)))) (fun _ h => h.1) ⟨HS.out _ (by first | exact hB6 | exact b_drew hB6), H6.out _ (by (repeat' (first | exact Below.refl _ _ | assumption | refine b_alloc ?_ _ | refine b_over ?_ _ | refine b_drew ?_ | refine b_call ?_ (by assumption))))⟩ (fun hHeld => ?_)
                  have tl1 : (0 : Int) < ((q ++ [x]).length : Int) := by simp
                  (refine wpAnyH_take (i := 15) (v := ?_) rfl (by kernel_rfl) (by kernel_rfl) (by kernel_rfl) (fun _ _ _ h => h) (Or.inl ⟨by rfl, ?_⟩) hHeld ?_; rotate_left; (focus (intro w hSw; (try dsimp only at hSw); go_simp; try (with_reducible rfl))); (try simp only [Act.put, List.getElem_toArray, List.getElem_cons_succ, List.getElem_cons_zero, List.setIfInBounds_toArray, List.set_cons_zero, List.set_cons_succ]))
                  (refine wpAnyH_take (i := 16) (v := ?_) rfl (by kernel_rfl) (by kernel_rfl) (by kernel_rfl) (fun _ _ _ h => h) (Or.inl ⟨by rfl, ?_⟩) hHeld ?_; rotate_left; (focus (intro w hSw; (try dsimp only at hSw); go_simp; try (with_reducible rfl))); (try simp only [Act.put, List.getElem_toArray, List.getElem_cons_succ, List.getElem_cons_zero, List.setIfInBounds_toArray, List.set_cons_zero, List.set_cons_succ]))
                  (refine wpAnyH_take (i := 17) (v := ?_) rfl (by kernel_rfl) (by kernel_rfl) (by kernel_rfl) (fun _ _ _ h => h) (Or.inl ⟨by rfl, ?_⟩) hHeld ?_; rotate_left; (focus (intro w hSw; (try dsimp only at hSw); go_simp; try (with_reducible rfl))); (try simp only [Act.put, List.getElem_toArray, List.getElem_cons_succ, List.getElem_cons_zero, List.setIfInBounds_toArray, List.set_cons_zero, List.set_cons_succ]))
                  (refine wpAnyH_take (i := 18) (v := ?_) rfl (by kernel_rfl) (by kernel_rfl) (by kernel_rfl) (fun _ _ _ h => h) (Or.inl ⟨by rfl, ?_⟩) hHeld ?_; rotate_left; (focus (intro w hSw; (try dsimp only at hSw); go_simp; try (with_reducible rfl))); (try simp only [Act.put, List.getElem_toArray, List.getElem_cons_succ, List.getElem_cons_zero, List.setIfInBounds_toArray, List.set_cons_zero, List.set_cons_succ]))
                  (refine wpAnyH_take (i := 19) (v := ?_) rfl (by kernel_rfl) (by kernel_rfl) (by kernel_rfl) (fun _ _ _ h => h) (Or.inl ⟨by rfl, ?_⟩) hHeld ?_; rotate_left; (focus (intro w hSw; (try dsimp only at hSw); go_simp; try (with_reducible rfl))); (try simp only [Act.put, List.getElem_toArray, List.getElem_cons_succ, List.getElem_cons_zero, List.setIfInBounds_toArray, List.set_cons_zero, List.set_cons_succ]))
                  (refine wpAnyH_take (i := 20) (v := ?_) rfl (by kernel_rfl) (by kernel_rfl) (by kernel_rfl) (fun _ _ _ h => h) (Or.inl ⟨by rfl, ?_⟩) hHeld ?_; rotate_left; (focus (intro w hSw; (try dsimp only at hSw); go_simp; try (with_reducible rfl))); (try simp only [Act.put, List.getElem_toArray, List.getElem_cons_succ, List.getElem_cons_zero, List.setIfInBounds_toArray, List.set_cons_zero, List.set_cons_succ]))
                  (refine wpAnyH_take (i := 21) (v := ?_) rfl (by kernel_rfl) (by kernel_rfl) (by kernel_rfl) (fun _ _ _ h => h) (Or.inl ⟨by rfl, ?_⟩) hHeld ?_; rotate_left; (focus (intro w hSw; (try dsimp only at hSw); go_simp; try (with_reducible rfl))); (try simp only [Act.put, List.getElem_toArray, List.getElem_cons_succ, List.getElem_cons_zero, List.setIfInBounds_toArray, List.set_cons_zero, List.set_cons_succ]))
                  (refine wpAnyH_take (i := 22) (v := ?_) rfl (by kernel_rfl) (by kernel_rfl) (by kernel_rfl) (fun _ _ _ h => h) (Or.inl ⟨by rfl, ?_⟩) hHeld ?_; rotate_left; (focus (intro w hSw; (try dsimp only at hSw); go_simp; try (with_reducible rfl))); (try simp only [Act.put, List.getElem_toArray, List.getElem_cons_succ, List.getElem_cons_zero, List.setIfInBounds_toArray, List.set_cons_zero, List.set_cons_succ]))
                  (refine wpAnyH_take (i := 23) (v := ?_) rfl (by kernel_rfl) (by kernel_rfl) (by kernel_rfl) (fun _ _ _ h => h) (Or.inl ⟨by rfl, ?_⟩) hHeld ?_; rotate_left; (focus (intro w hSw; (try dsimp only at hSw); go_simp; try (with_reducible rfl))); (try simp only [Act.put, List.getElem_toArray, List.getElem_cons_succ, List.getElem_cons_zero, List.setIfInBounds_toArray, List.set_cons_zero, List.set_cons_succ]))
                  (refine wpAnyH_take (i := 24) (v := _) rfl (by kernel_rfl) (by kernel_rfl) (by kernel_rfl) (fun _ _ _ h => h) (Or.inr ⟨by rfl, rfl⟩) hHeld ?_; (try simp only [Act.put, List.getElem_toArray, List.getElem_cons_succ, List.getElem_cons_zero, List.setIfInBounds_toArray, List.set_cons_zero, List.set_cons_succ]))
                  (refine wpAnyH_take (i := 25) (v := _) rfl (by kernel_rfl) (by kernel_rfl) (by kernel_rfl) (fun _ _ _ h => h) (Or.inr ⟨by rfl, rfl⟩) hHeld ?_; (try simp only [Act.put, List.getElem_toArray, List.getElem_cons_succ, List.getElem_cons_zero, List.setIfInBounds_toArray, List.set_cons_zero, List.set_cons_succ]))
                  (refine wpAnyH_take (i := 26) (v := ?_) rfl (by kernel_rfl) (by kernel_rfl) (by kernel_rfl) (fun _ _ _ h => h) (Or.inl ⟨by rfl, ?_⟩) hHeld ?_; rotate_left; (focus (intro w hSw; (try dsimp only at hSw); go_simp; try (with_reducible rfl))); (try simp only [Act.put, List.getElem_toArray, List.getElem_cons_succ, List.getElem_cons_zero, List.setIfInBounds_toArray, List.set_cons_zero, List.set_cons_succ]))
                  (refine wpAnyH_take (i := 27) (v := ?_) rfl (by kernel_rfl) (by kernel_rfl) (by kernel_rfl) (fun _ _ _ h => h) (Or.inl ⟨by rfl, ?_⟩) hHeld ?_; rotate_left; (focus (intro w hSw; (try dsimp only at hSw); go_simp; try (with_reducible rfl))); (try simp only [Act.put, List.getElem_toArray, List.getElem_cons_succ, List.getElem_cons_zero, List.setIfInBounds_toArray, List.set_cons_zero, List.set_cons_succ]))
                  refine wpAnyH_done (by kernel_rfl) ?_ _
                  have P6 := Lib.hid (qst_below P4.out hB6)
                  clear hHeld own5 rx hB5 H6 HS f1 f2 f3 f4 tl1

                  obtain ⟨hqT, hrT, hvT, hbT⟩ := P6.out
                  have hlT : (putL m q x).length ≤ 64 := by have := HPL.out; omega
                  have t0T : ((((putL m q x).length : Nat) : Int) != (((putL m q x).length : Nat) : Int)) = false := by simp
                  have HLT := Lib.hid hlT
                  have HLN := Lib.hid (qlen_list b m _ _ hqT)
                  have HAL := Lib.hid (qall_any b m _ _ hqT)
                  have HRT := Lib.hid hrT
                  have LBT := Lib.hid hbT.size
                  clear hqT hrT hvT hbT hlT
                  go_wp2_with fail
                  refine HLN.out.mono ?_
                  rintro e wL ⟨rfl, rfl⟩
                  go_wp2_with fail
                  refine HAL.out.mono ?_
                  rintro e wA ⟨vA, rfl, ownA, hbA⟩
                  have hsm := same11_any vA _ _ _ wA (ownI_read ownA) (readI_below HRT.out hbA) (by have := HLT.out; omega) (by have := HLT.out; omega)
                  rw [decide_eq_true rfl] at hsm
                  have HSM := Lib.hid hsm
                  have PA := Lib.hid (qst_below P6.out hbA)
                  clear hsm ownA
                  go_wp2_with fail
                  refine HSM.out.mono ?_
                  rintro e wS ⟨rfl, hbS⟩
                  have PS := Lib.hid (qst_below PA.out hbS)
                  go_wp2_with fail
                  exact ⟨⟨k + 1, _, by omega, by go_num, PS⟩, by simp only [intOf]; omega⟩
          · obtain ⟨g, hg⟩ : ∃ g, g = wr.heap.size := ⟨_, rfl⟩
            obtain ⟨w2, hw2⟩ : ∃ w2, w2 = wr.alloc (.cells #[.int .i64 1, .int .i64 x] 53) := ⟨_, rfl⟩
            go_upto_region 11 with fail
            rw [← hw2] at HQ1
            rw [← hw2, ← hg] at HBX
            rw [← hw2, ← hg]
            have hbg : b ≠ g := by omega
            have hsx := (blk2 HBX.out)
            obtain ⟨s0, s1, sf⟩ := hsx
            have hss := HBX.out.1
            obtain ⟨hq1, hr1, hv1, hb1⟩ := HQ1.out
            clear hw2 hg d0 d1 hB

            go_wp2_with fail
            refine (qput_any b m q x _ hq1).mono ?_
            rintro e w3 ⟨rfl, hq3, hg3⟩
            have hr3 : ReadI w3 u6 q := readI_kept hr1 (fun y hy hlt => hg3.block y hlt (fun e => hv y hy (by cases e; rfl))) hg3.size
            have hsx3 : w3.cell? ⟨g, 1, none⟩ = some (.int .i64 x) := (hg3.cell_far _ hss (fun e => hbg (by cases e; rfl))).trans s1
            have hss3 : g < w3.heap.size := Nat.lt_of_lt_of_le hss hg3.size
            have hb3 := b_gb hb1 hg3 hbw
            clear s0 s1 sf
            go_upto_region 12 with fail
            go_region_held3 (fun w' => w'.cell? ⟨g, 1, none⟩ = some (.int .i64 x))
              (first | go_keep | (exact (hb4.cell (p := ⟨g, 1, none⟩) (by simpa using hss3)).trans (by simpa using hsx3)))
              (first
                | (go_at_call 26; refine (rqmost_any most _).mono ?_; rintro e w4 ⟨rfl, rfl⟩; rw [← HM.out])
                | (go_at_call 42; refine (rqput_any u6 q m x _ (by exact hr3) (by omega) hm64).mono ?_; rintro e w4 ⟨v4, rfl, hr4, hv4, hb4⟩))
            have hb4' : Below w.heap.size w w4 := b_call (b_drew hb3) hb4
            have hq4 : QL w4 b m (putL m q x) := ql_below (ql_drew hq3) hb4
            have hr4u : ReadI w4 u6 q := readI_below (readI_drew hr3) hb4
            have hv4b : ∀ y, v4.ownBlock = some y → y ≠ b := fun y hy e => by have h1 := hv4 y hy; have h2 := ql_lt hq3; simp at h1; omega
            have hsx4 : w4.cell? ⟨g, 1, none⟩ = some (.int .i64 x) := (hb4.cell (p := ⟨g, 1, none⟩) (by simpa using hss3)).trans (by simpa using hsx3)
            have hss4 : g < w4.heap.size := Nat.lt_of_lt_of_le hss3 hb4.size
            have P4 : Hid (QSt w w4 b m (putL m q x) v4) := ⟨hq4, hr4, hv4b, hb4'⟩
            obtain ⟨a4, cap4, rfl⟩ := readI_len hr4
            have hpl := putL_le (x := x) hql
            have HPL := Lib.hid hpl
            clear hq4 hr4 hb3 hq3 hr3 hsx3 hss3 hg3 hb4 hq1 hr1 hpl hv4 hv4b
            cases hpb : putB m q with
            | false =>
              as_aux_lemma =>
                have hn : putN m q = 0 := by unfold putN; rw [hpb]; rfl
                have ho : putO m q x = 0 := by unfold putO; rw [if_pos (by unfold putB at hpb; simpa using hpb)]
                go_upto_region 13 with fail
                refine wp_region_over_lit (by kernel_rfl) (by kernel_rfl) ?_
                repeat (first | go_big_quiet_step (fail) | quiet_step (fail))
                refine wpQuiet_nil ?_
                intro w6 hb6; replace hb6 := over_elim hb6; obtain ⟨hc6, hf6⟩ := bcell hb6; have hz6 := hb6.size; try simp only [World.size_alloc, World.size_setCell, World.size_drew] at hz6
                have P6 := Lib.hid (qst_below P4.out hb6)
                clear hc6 hf6

                obtain ⟨hqT, hrT, hvT, hbT⟩ := P6.out
                have hlT : (putL m q x).length ≤ 64 := by have := HPL.out; omega
                have t0T : ((((putL m q x).length : Nat) : Int) != (((putL m q x).length : Nat) : Int)) = false := by simp
                have HLT := Lib.hid hlT
                have HLN := Lib.hid (qlen_list b m _ _ hqT)
                have HAL := Lib.hid (qall_any b m _ _ hqT)
                have HRT := Lib.hid hrT
                have LBT := Lib.hid hbT.size
                clear hqT hrT hvT hbT hlT
                go_wp2_with fail
                refine HLN.out.mono ?_
                rintro e wL ⟨rfl, rfl⟩
                go_wp2_with fail
                refine HAL.out.mono ?_
                rintro e wA ⟨vA, rfl, ownA, hbA⟩
                have hsm := same11_any vA _ _ _ wA (ownI_read ownA) (readI_below HRT.out hbA) (by have := HLT.out; omega) (by have := HLT.out; omega)
                rw [decide_eq_true rfl] at hsm
                have HSM := Lib.hid hsm
                have PA := Lib.hid (qst_below P6.out hbA)
                clear hsm ownA
                go_wp2_with fail
                refine HSM.out.mono ?_
                rintro e wS ⟨rfl, hbS⟩
                have PS := Lib.hid (qst_below PA.out hbS)
                go_wp2_with fail
                exact ⟨⟨k + 1, _, by omega, by go_num, PS⟩, by simp only [intOf]; omega⟩
            | true =>
              as_aux_lemma =>
                have hn : putN m q = 1 := by unfold putN; rw [hpb]; rfl
                have ho : putO m q x = (q ++ [x]).getD 0 0 := by unfold putO; rw [if_neg (by unfold putB at hpb; simpa using hpb)]; cases q <;> rfl
                have HO := Lib.hid ho; clear ho
                go_upto_region 13 with fail
                have HS : Hid (∀ w', Below w4.heap.size w4 w' → w'.cell? ⟨g, 1, none⟩ = some (.int .i64 x)) := Lib.hid (fun w' hb => (hb.cell (p := ⟨g, 1, none⟩) hss4).trans hsx4)
                refine wp_region_held_drew (S := (fun w' => w'.cell? ⟨g, 1, none⟩ = some (.int .i64 x))) (by kernel_rfl) (HS.out _ (b_drew (Below.refl _ _))) (fun hHeld => ?_)
                (refine wpAnyH_take (i := 0) (v := ?_) rfl (by kernel_rfl) (by kernel_rfl) (by kernel_rfl) (fun _ _ _ h => h) (Or.inl ⟨by rfl, ?_⟩) hHeld ?_; rotate_left; (focus (intro w hSw; (try dsimp only at hSw); go_simp; try (with_reducible rfl))); (try simp only [Act.put, List.getElem_toArray, List.getElem_cons_succ, List.getElem_cons_zero, List.setIfInBounds_toArray, List.set_cons_zero, List.set_cons_succ]))
                (refine wpAnyH_take (i := 1) (v := ?_) rfl (by kernel_rfl) (by kernel_rfl) (by kernel_rfl) (fun _ _ _ h => h) (Or.inl ⟨by rfl, ?_⟩) hHeld ?_; rotate_left; (focus (intro w hSw; (try dsimp only at hSw); go_simp; try (with_reducible rfl))); (try simp only [Act.put, List.getElem_toArray, List.getElem_cons_succ, List.getElem_cons_zero, List.setIfInBounds_toArray, List.set_cons_zero, List.set_cons_succ]))
                (refine wpAnyH_take (i := 2) (v := ?_) rfl (by kernel_rfl) (by kernel_rfl) (by kernel_rfl) (fun _ _ _ h => h) (Or.inl ⟨by rfl, ?_⟩) hHeld ?_; rotate_left; (focus (intro w hSw; (try dsimp only at hSw); go_simp; try (with_reducible rfl))); (try simp only [Act.put, List.getElem_toArray, List.getElem_cons_succ, List.getElem_cons_zero, List.setIfInBounds_toArray, List.set_cons_zero, List.set_cons_succ]))
                (refine wpAnyH_take (i := 3) (v := ?_) rfl (by kernel_rfl) (by kernel_rfl) (by kernel_rfl) (fun _ _ _ h => h) (Or.inl ⟨by rfl, ?_⟩) hHeld ?_; rotate_left; (focus (intro w hSw; (try dsimp only at hSw); go_simp; try (with_reducible rfl))); (try simp only [Act.put, List.getElem_toArray, List.getElem_cons_succ, List.getElem_cons_zero, List.setIfInBounds_toArray, List.set_cons_zero, List.set_cons_succ]))
                (refine wpAnyH_take (i := 4) (v := ?_) rfl (by kernel_rfl) (by kernel_rfl) (by kernel_rfl) (fun _ _ _ h => h) (Or.inl ⟨by rfl, ?_⟩) hHeld ?_; rotate_left; (focus (intro w hSw; (try dsimp only at hSw); go_simp; try (with_reducible rfl))); (try simp only [Act.put, List.getElem_toArray, List.getElem_cons_succ, List.getElem_cons_zero, List.setIfInBounds_toArray, List.set_cons_zero, List.set_cons_succ]))
                (refine wpAnyH_take (i := 5) (v := ?_) rfl (by kernel_rfl) (by kernel_rfl) (by kernel_rfl) (fun _ _ _ h => h) (Or.inl ⟨by rfl, ?_⟩) hHeld ?_; rotate_left; (focus (intro w hSw; (try dsimp only at hSw); go_simp; try (with_reducible rfl))); (try simp only [Act.put, List.getElem_toArray, List.getElem_cons_succ, List.getElem_cons_zero, List.setIfInBounds_toArray, List.set_cons_zero, List.set_cons_succ]))
                (refine wpAnyH_take (i := 6) (v := ?_) rfl (by kernel_rfl) (by kernel_rfl) (by kernel_rfl) (fun _ _ _ h => h) (Or.inl ⟨by rfl, ?_⟩) hHeld ?_; rotate_left; (focus (intro w hSw; (try dsimp only at hSw); go_simp; try (with_reducible rfl))); (try simp only [Act.put, List.getElem_toArray, List.getElem_cons_succ, List.getElem_cons_zero, List.setIfInBounds_toArray, List.set_cons_zero, List.set_cons_succ]))
                (refine wpAnyH_take (i := 7) (v := ?_) rfl (by kernel_rfl) (by kernel_rfl) (by kernel_rfl) (fun _ _ _ h => h) (Or.inl ⟨by rfl, ?_⟩) hHeld ?_; rotate_left; (focus (intro w hSw; (try dsimp only at hSw); go_simp; try (with_reducible rfl))); (try simp only [Act.put, List.getElem_toArray, List.getElem_cons_succ, List.getElem_cons_zero, List.setIfInBounds_toArray, List.set_cons_zero, List.set_cons_succ]))
                (refine wpAnyH_take (i := 9) (v := ?_) rfl (by kernel_rfl) (by kernel_rfl) (by kernel_rfl) (fun _ _ _ h => h) (Or.inl ⟨by rfl, ?_⟩) hHeld ?_; rotate_left; (focus (intro w hSw; (try dsimp only at hSw); go_simp; try (with_reducible rfl))); (try simp only [Act.put, List.getElem_toArray, List.getElem_cons_succ, List.getElem_cons_zero, List.setIfInBounds_toArray, List.set_cons_zero, List.set_cons_succ]))
                (refine wpAnyH_take (i := 11) (v := ?_) rfl (by kernel_rfl) (by kernel_rfl) (by kernel_rfl) (fun _ _ _ h => h) (Or.inl ⟨by rfl, ?_⟩) hHeld ?_; rotate_left; (focus (intro w hSw; (try dsimp only at hSw); go_simp; try (with_reducible rfl))); (try simp only [Act.put, List.getElem_toArray, List.getElem_cons_succ, List.getElem_cons_zero, List.setIfInBounds_toArray, List.set_cons_zero, List.set_cons_succ]))
                (refine wpAnyH_take (i := 12) (v := ?_) rfl (by kernel_rfl) (by kernel_rfl) (by kernel_rfl) (fun _ _ _ h => h) (Or.inl ⟨by rfl, ?_⟩) hHeld ?_; rotate_left; (focus (intro w hSw; (try dsimp only at hSw); go_simp; try (with_reducible rfl))); (try simp only [Act.put, List.getElem_toArray, List.getElem_cons_succ, List.getElem_cons_zero, List.setIfInBounds_toArray, List.set_cons_zero, List.set_cons_succ]))
                refine wpAnyH_ready (rs := [8, 13]) (by kernel_rfl) (by simp) (AllReadyH.cons rfl (fun K hK => ?_) (AllReadyH.cons rfl (fun K hK => ?_) AllReadyH.nil))
                · go_simp
                  refine hK.out _ _ (HS.out _ (by (repeat' (first | exact Below.refl _ _ | assumption | refine b_alloc ?_ _ | refine b_over ?_ _ | refine b_drew ?_ | refine b_call ?_ (by assumption))))) (fun hHeld => ?_)
                  clear hK K
                  (try simp only [Act.put, List.getElem_toArray, List.getElem_cons_succ, List.getElem_cons_zero, List.setIfInBounds_toArray, List.set_cons_zero, List.set_cons_succ])
                  refine wpAnyH_ready (rs := [10, 13]) (by kernel_rfl) (by simp) (AllReadyH.cons rfl (fun K hK => ?_) (AllReadyH.cons rfl (fun K hK => ?_) AllReadyH.nil))
                  · have own0 : OwnI (w4.alloc (.cells #[] 3)).drew w4.heap.size (.slice (some ⟨w4.heap.size, 0, none⟩) 0 0) [] := ownI_drew (own_empty (Nat.le_refl _))
                    have hB0 : Below w4.heap.size w4 (w4.alloc (.cells #[] 3)).drew := b_drew (b_alloc (Below.refl _ _) _)
                    refine step_want (by kernel_rfl) ?_
                    refine wp_appendI _ _ (by rfl) w4.heap.size _ [] (by rfl) own0 _ q (by rfl) (readI_below hr4u hB0) (by simp; omega) hB0.size (fun v5 w5 own5 hg5 => ?_)
                    rw [List.nil_append] at own5
                    have hB5' : Below w4.heap.size w4 w5 := b_own hB0 own0 hg5
                    refine hK.out _ _ (HS.out _ hB5') (fun hHeld => ?_)
                    clear hK K
                    (try simp only [Act.put, List.getElem_toArray, List.getElem_cons_succ, List.getElem_cons_zero, List.setIfInBounds_toArray, List.set_cons_zero, List.set_cons_succ])
                    refine wpAnyH_ready (rs := [13]) (by kernel_rfl) (by simp) (AllReadyH.cons rfl (fun K hK => ?_) AllReadyH.nil)
                    go_simp
                    refine hK.out _ _ (HS.out _ (by first | exact b_drew (b_alloc hB5' _) | exact b_alloc hB5' _)) (fun hHeld => ?_)
                    clear hK K
                    (try simp only [Act.put, List.getElem_toArray, List.getElem_cons_succ, List.getElem_cons_zero, List.setIfInBounds_toArray, List.set_cons_zero, List.set_cons_succ])
                    have hB5 : Below w4.heap.size w4 (w5.alloc (.cells #[.int .i64 x] 3)) := b_alloc hB5' _
                    replace own5 := ownI_alloc own5 (.cells #[.int .i64 x] 3)
                    have rx := read_one w5 x
                    refine wpAnyH_ready (rs := [14]) (by kernel_rfl) (by simp) (AllReadyH.cons rfl (fun K hK => ?_) AllReadyH.nil)
                    refine step_want (by kernel_rfl) ?_
                    refine wp_appendI _ _ (by rfl) w4.heap.size _ q (by rfl) own5 _ [x] (by rfl) rx (by simp; omega) hB5.size (fun v6 w6 own6 hg6 => ?_)
                    have hB6 : Below w4.heap.size w4 w6 := b_own hB5 own5 hg6
                    obtain ⟨g6, cap6, hv6, f1, f2, f3, f4, f5, f6⟩ := ownI_form own6 (by simp)
                    rw [hv6]
                    clear own6 hv6 hg6
                    refine hK.out _ _ (HS.out _ hB6) (fun hHeld => ?_)
                    clear hK K
                    (try simp only [Act.put, List.getElem_toArray, List.getElem_cons_succ, List.getElem_cons_zero, List.setIfInBounds_toArray, List.set_cons_zero, List.set_cons_succ])
                    have H6 : Hid (∀ w', Below w6.heap.size w6 w' → w'.cell? ⟨g6, 0, none⟩ = some (.int .i64 (putO m q x))) := Lib.hid (fun w' hb => by rw [HO.out]; exact (hb.cell (p := ⟨g6, 0, none⟩) f2).trans (f5 0 (by simp)))
                    clear f5 f6
                    refine wpAnyH_switch (S' := (fun w' => w'.cell? ⟨g, 1, none⟩ = some (.int .i64 x) ∧ w'.cell? ⟨g6, 0, none⟩ = some (.int .i64 (putO m q x)))) (fun _ h => h.1) ⟨HS.out _ (by first | exact hB6 | exact b_drew hB6), H6.out _ (by (repeat' (first | exact Below.refl _ _ | assumption | refine b_alloc ?_ _ | refine b_over ?_ _ | refine b_drew ?_ | refine b_call ?_ (by assumption))))⟩ (fun hHeld => ?_)
                    have tl1 : (0 : Int) < ((q ++ [x]).length : Int) := by simp
                    (refine wpAnyH_take (i := 15) (v := ?_) rfl (by kernel_rfl) (by kernel_rfl) (by kernel_rfl) (fun _ _ _ h => h) (Or.inl ⟨by rfl, ?_⟩) hHeld ?_; rotate_left; (focus (intro w hSw; (try dsimp only at hSw); go_simp; try (with_reducible rfl))); (try simp only [Act.put, List.getElem_toArray, List.getElem_cons_succ, List.getElem_cons_zero, List.setIfInBounds_toArray, List.set_cons_zero, List.set_cons_succ]))
                    (refine wpAnyH_take (i := 16) (v := ?_) rfl (by kernel_rfl) (by kernel_rfl) (by kernel_rfl) (fun _ _ _ h => h) (Or.inl ⟨by rfl, ?_⟩) hHeld ?_; rotate_left; (focus (intro w hSw; (try dsimp only at hSw); go_simp; try (with_reducible rfl))); (try simp only [Act.put, List.getElem_toArray, List.getElem_cons_succ, List.getElem_cons_zero, List.setIfInBounds_toArray, List.set_cons_zero, List.set_cons_succ]))
                    (refine wpAnyH_take (i := 17) (v := ?_) rfl (by kernel_rfl) (by kernel_rfl) (by kernel_rfl) (fun _ _ _ h => h) (Or.inl ⟨by rfl, ?_⟩) hHeld ?_; rotate_left; (focus (intro w hSw; (try dsimp only at hSw); go_simp; try (with_reducible rfl))); (try simp only [Act.put, List.getElem_toArray, List.getElem_cons_succ, List.getElem_cons_zero, List.setIfInBounds_toArray, List.set_cons_zero, List.set_cons_succ]))
                    (refine wpAnyH_take (i := 18) (v := ?_) rfl (by kernel_rfl) (by kernel_rfl) (by kernel_rfl) (fun _ _ _ h => h) (Or.inl ⟨by rfl, ?_⟩) hHeld ?_; rotate_left; (focus (intro w hSw; (try dsimp only at hSw); go_simp; try (with_reducible rfl))); (try simp only [Act.put, List.getElem_toArray, List.getElem_cons_succ, List.getElem_cons_zero, List.setIfInBounds_toArray, List.set_cons_zero, List.set_cons_succ]))
                    (refine wpAnyH_take (i := 19) (v := ?_) rfl (by kernel_rfl) (by kernel_rfl) (by kernel_rfl) (fun _ _ _ h => h) (Or.inl ⟨by rfl, ?_⟩) hHeld ?_; rotate_left; (focus (intro w hSw; (try dsimp only at hSw); go_simp; try (with_reducible rfl))); (try simp only [Act.put, List.getElem_toArray, List.getElem_cons_succ, List.getElem_cons_zero, List.setIfInBounds_toArray, List.set_cons_zero, List.set_cons_succ]))
                    (refine wpAnyH_take (i := 20) (v := ?_) rfl (by kernel_rfl) (by kernel_rfl) (by kernel_rfl) (fun _ _ _ h => h) (Or.inl ⟨by rfl, ?_⟩) hHeld ?_; rotate_left; (focus (intro w hSw; (try dsimp only at hSw); go_simp; try (with_reducible rfl))); (try simp only [Act.put, List.getElem_toArray, List.getElem_cons_succ, List.getElem_cons_zero, List.setIfInBounds_toArray, List.set_cons_zero, List.set_cons_succ]))
                    (refine wpAnyH_take (i := 21) (v := ?_) rfl (by kernel_rfl) (by kernel_rfl) (by kernel_rfl) (fun _ _ _ h => h) (Or.inl ⟨by rfl, ?_⟩) hHeld ?_; rotate_left; (focus (intro w hSw; (try dsimp only at hSw); go_simp; try (with_reducible rfl))); (try simp only [Act.put, List.getElem_toArray, List.getElem_cons_succ, List.getElem_cons_zero, List.setIfInBounds_toArray, List.set_cons_zero, List.set_cons_succ]))
                    (refine wpAnyH_take (i := 22) (v := ?_) rfl (by kernel_rfl) (by kernel_rfl) (by kernel_rfl) (fun _ _ _ h => h) (Or.inl ⟨by rfl, ?_⟩) hHeld ?_; rotate_left; (focus (intro w hSw; (try dsimp only at hSw); go_simp; try (with_reducible rfl))); (try simp only [Act.put, List.getElem_toArray, List.getElem_cons_succ, List.getElem_cons_zero, List.setIfInBounds_toArray, List.set_cons_zero, List.set_cons_succ]))
                    (refine wpAnyH_take (i := 23) (v := ?_) rfl (by kernel_rfl) (by kernel_rfl) (by kernel_rfl) (fun _ _ _ h => h) (Or.inl ⟨by rfl, ?_⟩) hHeld ?_; rotate_left; (focus (intro w hSw; (try dsimp only at hSw); go_simp; try (with_reducible rfl))); (try simp only [Act.put, List.getElem_toArray, List.getElem_cons_succ, List.getElem_cons_zero, List.setIfInBounds_toArray, List.set_cons_zero, List.set_cons_succ]))
                    (refine wpAnyH_take (i := 24) (v := _) rfl (by kernel_rfl) (by kernel_rfl) (by kernel_rfl) (fun _ _ _ h => h) (Or.inr ⟨by rfl, rfl⟩) hHeld ?_; (try simp only [Act.put, List.getElem_toArray, List.getElem_cons_succ, List.getElem_cons_zero, List.setIfInBounds_toArray, List.set_cons_zero, List.set_cons_succ]))
                    (refine wpAnyH_take (i := 25) (v := _) rfl (by kernel_rfl) (by kernel_rfl) (by kernel_rfl) (fun _ _ _ h => h) (Or.inr ⟨by rfl, rfl⟩) hHeld ?_; (try simp only [Act.put, List.getElem_toArray, List.getElem_cons_succ, List.getElem_cons_zero, List.setIfInBounds_toArray, List.set_cons_zero, List.set_cons_succ]))
                    (refine wpAnyH_take (i := 26) (v := ?_) rfl (by kernel_rfl) (by kernel_rfl) (by kernel_rfl) (fun _ _ _ h => h) (Or.inl ⟨by rfl, ?_⟩) hHeld ?_; rotate_left; (focus (intro w hSw; (try dsimp only at hSw); go_simp; try (with_reducible rfl))); (try simp only [Act.put, List.getElem_toArray, List.getElem_cons_succ, List.getElem_cons_zero, List.setIfInBounds_toArray, List.set_cons_zero, List.set_cons_succ]))
                    (refine wpAnyH_take (i := 27) (v := ?_) rfl (by kernel_rfl) (by kernel_rfl) (by kernel_rfl) (fun _ _ _ h => h) (Or.inl ⟨by rfl, ?_⟩) hHeld ?_; rotate_left; (focus (intro w hSw; (try dsimp only at hSw); go_simp; try (with_reducible rfl))); (try simp only [Act.put, List.getElem_toArray, List.getElem_cons_succ, List.getElem_cons_zero, List.setIfInBounds_toArray, List.set_cons_zero, List.set_cons_succ]))
                    refine wpAnyH_done (by kernel_rfl) ?_ _
                    have P6 := Lib.hid (qst_below P4.out hB6)
                    clear hHeld own5 rx hB5 H6 HS f1 f2 f3 f4 tl1

                    obtain ⟨hqT, hrT, hvT, hbT⟩ := P6.out
                    have hlT : (putL m q x).length ≤ 64 := by have := HPL.out; omega
                    have t0T : ((((putL m q x).length : Nat) : Int) != (((putL m q x).length : Nat) : Int)) = false := by simp
                    have HLT := Lib.hid hlT
                    have HLN := Lib.hid (qlen_list b m _ _ hqT)
                    have HAL := Lib.hid (qall_any b m _ _ hqT)
                    have HRT := Lib.hid hrT
                    have LBT := Lib.hid hbT.size
                    clear hqT hrT hvT hbT hlT
                    go_wp2_with fail
                    refine HLN.out.mono ?_
                    rintro e wL ⟨rfl, rfl⟩
                    go_wp2_with fail
                    refine HAL.out.mono ?_
                    rintro e wA ⟨vA, rfl, ownA, hbA⟩
                    have hsm := same11_any vA _ _ _ wA (ownI_read ownA) (readI_below HRT.out hbA) (by have := HLT.out; omega) (by have := HLT.out; omega)
                    rw [decide_eq_true rfl] at hsm
                    have HSM := Lib.hid hsm
                    have PA := Lib.hid (qst_below P6.out hbA)
                    clear hsm ownA
                    go_wp2_with fail
                    refine HSM.out.mono ?_
                    rintro e wS ⟨rfl, hbS⟩
                    have PS := Lib.hid (qst_below PA.out hbS)
                    go_wp2_with fail
                    exact ⟨⟨k + 1, _, by omega, by go_num, PS⟩, by simp only [intOf]; omega⟩
                  · go_simp
                    refine hK.out _ _ (HS.out _ (by (repeat' (first | exact Below.refl _ _ | assumption | refine b_alloc ?_ _ | refine b_over ?_ _ | refine b_drew ?_ | refine b_call ?_ (by assumption))))) (fun hHeld => ?_)
                    clear hK K
                    (try simp only [Act.put, List.getElem_toArray, List.getElem_cons_succ, List.getElem_cons_zero, List.setIfInBounds_toArray, List.set_cons_zero, List.set_cons_succ])
                    have own0 : OwnI ((w4.alloc (.cells #[] 3)).alloc (.cells #[.int .i64 x] 3)).drew w4.heap.size (.slice (some ⟨w4.heap.size, 0, none⟩) 0 0) [] := ownI_drew (ownI_alloc (own_empty (Nat.le_refl _)) _)
                    have hB0 : Below w4.heap.size w4 ((w4.alloc (.cells #[] 3)).alloc (.cells #[.int .i64 x] 3)).drew := b_drew (b_alloc (b_alloc (Below.refl _ _) _) _)
                    have rx0 : ReadI ((w4.alloc (.cells #[] 3)).alloc (.cells #[.int .i64 x] 3)).drew (.slice (some ⟨w4.heap.size + 1, 0, none⟩) 1 1) [x] := by
                      have := read_one (w4.alloc (.cells #[] 3)) x
                      rw [World.size_alloc] at this
                      exact readI_drew this
                    refine wpAnyH_ready (rs := [10]) (by kernel_rfl) (by simp) (AllReadyH.cons rfl (fun K hK => ?_) AllReadyH.nil)
                    refine step_want (by kernel_rfl) ?_
                    refine wp_appendI _ _ (by rfl) w4.heap.size _ [] (by rfl) own0 _ q (by rfl) (readI_below hr4u hB0) (by simp; omega) hB0.size (fun v5 w5 own5 hg5 => ?_)
                    rw [List.nil_append] at own5
                    have hB5 : Below w4.heap.size w4 w5 := b_own hB0 own0 hg5
                    have rx : ReadI w5 (.slice (some ⟨w4.heap.size + 1, 0, none⟩) 1 1) [x] := readI_kept rx0 (fun y hy hlt => hg5.block y hlt (fun e => by have e1 : some y = some (w4.heap.size + 1) := hy.symm; have e2 : some y = some w4.heap.size := e; rw [e1] at e2; injection e2; omega)) hg5.size
                    clear rx0
                    refine hK.out _ _ (HS.out _ hB5) (fun hHeld => ?_)
                    clear hK K
                    (try simp only [Act.put, List.getElem_toArray, List.getElem_cons_succ, List.getElem_cons_zero, List.setIfInBounds_toArray, List.set_cons_zero, List.set_cons_succ])
                    refine wpAnyH_ready (rs := [14]) (by kernel_rfl) (by simp) (AllReadyH.cons rfl (fun K hK => ?_) AllReadyH.nil)
                    refine step_want (by kernel_rfl) ?_
                    refine wp_appendI _ _ (by rfl) w4.heap.size _ q (by rfl) own5 _ [x] (by rfl) rx (by simp; omega) hB5.size (fun v6 w6 own6 hg6 => ?_)
                    have hB6 : Below w4.heap.size w4 w6 := b_own hB5 own5 hg6
                    obtain ⟨g6, cap6, hv6, f1, f2, f3, f4, f5, f6⟩ := ownI_form own6 (by simp)
                    rw [hv6]
                    clear own6 hv6 hg6
                    refine hK.out _ _ (HS.out _ hB6) (fun hHeld => ?_)
                    clear hK K
                    (try simp only [Act.put, List.getElem_toArray, List.getElem_cons_succ, List.getElem_cons_zero, List.setIfInBounds_toArray, List.set_cons_zero, List.set_cons_succ])
                    have H6 : Hid (∀ w', Below w6.heap.size w6 w' → w'.cell? ⟨g6, 0, none⟩ = some (.int .i64 (putO m q x))) := Lib.hid (fun w' hb => by rw [HO.out]; exact (hb.cell (p := ⟨g6, 0, none⟩) f2).trans (f5 0 (by simp)))
                    clear f5 f6
                    refine wpAnyH_switch (S' := (fun w' => w'.cell? ⟨g, 1, none⟩ = some (.int .i64 x) ∧ w'.cell? ⟨g6, 0, none⟩ = some (.int .i64 (putO m q x)))) (fun _ h => h.1) ⟨HS.out _ (by first | exact hB6 | exact b_drew hB6), H6.out _ (by (repeat' (first | exact Below.refl _ _ | assumption | refine b_alloc ?_ _ | refine b_over ?_ _ | refine b_drew ?_ | refine b_call ?_ (by assumption))))⟩ (fun hHeld => ?_)
                    have tl1 : (0 : Int) < ((q ++ [x]).length : Int) := by simp
                    (refine wpAnyH_take (i := 15) (v := ?_) rfl (by kernel_rfl) (by kernel_rfl) (by kernel_rfl) (fun _ _ _ h => h) (Or.inl ⟨by rfl, ?_⟩) hHeld ?_; rotate_left; (focus (intro w hSw; (try dsimp only at hSw); go_simp; try (with_reducible rfl))); (try simp only [Act.put, List.getElem_toArray, List.getElem_cons_succ, List.getElem_cons_zero, List.setIfInBounds_toArray, List.set_cons_zero, List.set_cons_succ]))
                    (refine wpAnyH_take (i := 16) (v := ?_) rfl (by kernel_rfl) (by kernel_rfl) (by kernel_rfl) (fun _ _ _ h => h) (Or.inl ⟨by rfl, ?_⟩) hHeld ?_; rotate_left; (focus (intro w hSw; (try dsimp only at hSw); go_simp; try (with_reducible rfl))); (try simp only [Act.put, List.getElem_toArray, List.getElem_cons_succ, List.getElem_cons_zero, List.setIfInBounds_toArray, List.set_cons_zero, List.set_cons_succ]))
                    (refine wpAnyH_take (i := 17) (v := ?_) rfl (by kernel_rfl) (by kernel_rfl) (by kernel_rfl) (fun _ _ _ h => h) (Or.inl ⟨by rfl, ?_⟩) hHeld ?_; rotate_left; (focus (intro w hSw; (try dsimp only at hSw); go_simp; try (with_reducible rfl))); (try simp only [Act.put, List.getElem_toArray, List.getElem_cons_succ, List.getElem_cons_zero, List.setIfInBounds_toArray, List.set_cons_zero, List.set_cons_succ]))
                    (refine wpAnyH_take (i := 18) (v := ?_) rfl (by kernel_rfl) (by kernel_rfl) (by kernel_rfl) (fun _ _ _ h => h) (Or.inl ⟨by rfl, ?_⟩) hHeld ?_; rotate_left; (focus (intro w hSw; (try dsimp only at hSw); go_simp; try (with_reducible rfl))); (try simp only [Act.put, List.getElem_toArray, List.getElem_cons_succ, List.getElem_cons_zero, List.setIfInBounds_toArray, List.set_cons_zero, List.set_cons_succ]))
                    (refine wpAnyH_take (i := 19) (v := ?_) rfl (by kernel_rfl) (by kernel_rfl) (by kernel_rfl) (fun _ _ _ h => h) (Or.inl ⟨by rfl, ?_⟩) hHeld ?_; rotate_left; (focus (intro w hSw; (try dsimp only at hSw); go_simp; try (with_reducible rfl))); (try simp only [Act.put, List.getElem_toArray, List.getElem_cons_succ, List.getElem_cons_zero, List.setIfInBounds_toArray, List.set_cons_zero, List.set_cons_succ]))
                    (refine wpAnyH_take (i := 20) (v := ?_) rfl (by kernel_rfl) (by kernel_rfl) (by kernel_rfl) (fun _ _ _ h => h) (Or.inl ⟨by rfl, ?_⟩) hHeld ?_; rotate_left; (focus (intro w hSw; (try dsimp only at hSw); go_simp; try (with_reducible rfl))); (try simp only [Act.put, List.getElem_toArray, List.getElem_cons_succ, List.getElem_cons_zero, List.setIfInBounds_toArray, List.set_cons_zero, List.set_cons_succ]))
                    (refine wpAnyH_take (i := 21) (v := ?_) rfl (by kernel_rfl) (by kernel_rfl) (by kernel_rfl) (fun _ _ _ h => h) (Or.inl ⟨by rfl, ?_⟩) hHeld ?_; rotate_left; (focus (intro w hSw; (try dsimp only at hSw); go_simp; try (with_reducible rfl))); (try simp only [Act.put, List.getElem_toArray, List.getElem_cons_succ, List.getElem_cons_zero, List.setIfInBounds_toArray, List.set_cons_zero, List.set_cons_succ]))
                    (refine wpAnyH_take (i := 22) (v := ?_) rfl (by kernel_rfl) (by kernel_rfl) (by kernel_rfl) (fun _ _ _ h => h) (Or.inl ⟨by rfl, ?_⟩) hHeld ?_; rotate_left; (focus (intro w hSw; (try dsimp only at hSw); go_simp; try (with_reducible rfl))); (try simp only [Act.put, List.getElem_toArray, List.getElem_cons_succ, List.getElem_cons_zero, List.setIfInBounds_toArray, List.set_cons_zero, List.set_cons_succ]))
                    (refine wpAnyH_take (i := 23) (v := ?_) rfl (by kernel_rfl) (by kernel_rfl) (by kernel_rfl) (fun _ _ _ h => h) (Or.inl ⟨by rfl, ?_⟩) hHeld ?_; rotate_left; (focus (intro w hSw; (try dsimp only at hSw); go_simp; try (with_reducible rfl))); (try simp only [Act.put, List.getElem_toArray, List.getElem_cons_succ, List.getElem_cons_zero, List.setIfInBounds_toArray, List.set_cons_zero, List.set_cons_succ]))
                    (refine wpAnyH_take (i := 24) (v := _) rfl (by kernel_rfl) (by kernel_rfl) (by kernel_rfl) (fun _ _ _ h => h) (Or.inr ⟨by rfl, rfl⟩) hHeld ?_; (try simp only [Act.put, List.getElem_toArray, List.getElem_cons_succ, List.getElem_cons_zero, List.setIfInBounds_toArray, List.set_cons_zero, List.set_cons_succ]))
                    (refine wpAnyH_take (i := 25) (v := _) rfl (by kernel_rfl) (by kernel_rfl) (by kernel_rfl) (fun _ _ _ h => h) (Or.inr ⟨by rfl, rfl⟩) hHeld ?_; (try simp only [Act.put, List.getElem_toArray, List.getElem_cons_succ, List.getElem_cons_zero, List.setIfInBounds_toArray, List.set_cons_zero, List.set_cons_succ]))
                    (refine wpAnyH_take (i := 26) (v := ?_) rfl (by kernel_rfl) (by kernel_rfl) (by kernel_rfl) (fun _ _ _ h => h) (Or.inl ⟨by rfl, ?_⟩) hHeld ?_; rotate_left; (focus (intro w hSw; (try dsimp only at hSw); go_simp; try (with_reducible rfl))); (try simp only [Act.put, List.getElem_toArray, List.getElem_cons_succ, List.getElem_cons_zero, List.setIfInBounds_toArray, List.set_cons_zero, List.set_cons_succ]))
                    (refine wpAnyH_take (i := 27) (v := ?_) rfl (by kernel_rfl) (by kernel_rfl) (by kernel_rfl) (fun _ _ _ h => h) (Or.inl ⟨by rfl, ?_⟩) hHeld ?_; rotate_left; (focus (intro w hSw; (try dsimp only at hSw); go_simp; try (with_reducible rfl))); (try simp only [Act.put, List.getElem_toArray, List.getElem_cons_succ, List.getElem_cons_zero, List.setIfInBounds_toArray, List.set_cons_zero, List.set_cons_succ]))
                    refine wpAnyH_done (by kernel_rfl) ?_ _
                    have P6 := Lib.hid (qst_below P4.out hB6)
                    clear hHeld own5 rx hB5 H6 HS f1 f2 f3 f4 tl1

                    obtain ⟨hqT, hrT, hvT, hbT⟩ := P6.out
                    have hlT : (putL m q x).length ≤ 64 := by have := HPL.out; omega
                    have t0T : ((((putL m q x).length : Nat) : Int) != (((putL m q x).length : Nat) : Int)) = false := by simp
                    have HLT := Lib.hid hlT
                    have HLN := Lib.hid (qlen_list b m _ _ hqT)
                    have HAL := Lib.hid (qall_any b m _ _ hqT)
                    have HRT := Lib.hid hrT
                    have LBT := Lib.hid hbT.size
                    clear hqT hrT hvT hbT hlT
                    go_wp2_with fail
                    refine HLN.out.mono ?_
                    rintro e wL ⟨rfl, rfl⟩
                    go_wp2_with fail
                    refine HAL.out.mono ?_
                    rintro e wA ⟨vA, rfl, ownA, hbA⟩
                    have hsm := same11_any vA _ _ _ wA (ownI_read ownA) (readI_below HRT.out hbA) (by have := HLT.out; omega) (by have := HLT.out; omega)
                    rw [decide_eq_true rfl] at hsm
                    have HSM := Lib.hid hsm
                    have PA := Lib.hid (qst_below P6.out hbA)
                    clear hsm ownA
                    go_wp2_with fail
                    refine HSM.out.mono ?_
                    rintro e wS ⟨rfl, hbS⟩
                    have PS := Lib.hid (qst_below PA.out hbS)
                    go_wp2_with fail
                    exact ⟨⟨k + 1, _, by omega, by go_num, PS⟩, by simp only [intOf]; omega⟩
                · go_simp
                  refine hK.out _ _ (HS.out _ (by (repeat' (first | exact Below.refl _ _ | assumption | refine b_alloc ?_ _ | refine b_over ?_ _ | refine b_drew ?_ | refine b_call ?_ (by assumption))))) (fun hHeld => ?_)
                  clear hK K
                  (try simp only [Act.put, List.getElem_toArray, List.getElem_cons_succ, List.getElem_cons_zero, List.setIfInBounds_toArray, List.set_cons_zero, List.set_cons_succ])
                  refine wpAnyH_ready (rs := [8]) (by kernel_rfl) (by simp) (AllReadyH.cons rfl (fun K hK => ?_) AllReadyH.nil)
                  go_simp
                  refine hK.out _ _ (HS.out _ (by (repeat' (first | exact Below.refl _ _ | assumption | refine b_alloc ?_ _ | refine b_over ?_ _ | refine b_drew ?_ | refine b_call ?_ (by assumption))))) (fun hHeld => ?_)
                  clear hK K
                  (try simp only [Act.put, List.getElem_toArray, List.getElem_cons_succ, List.getElem_cons_zero, List.setIfInBounds_toArray, List.set_cons_zero, List.set_cons_succ])
                  have own0 : OwnI ((w4.alloc (.cells #[.int .i64 x] 3)).alloc (.cells #[] 3)).drew w4.heap.size (.slice (some ⟨w4.heap.size + 1, 0, none⟩) 0 0) [] := by
                    have := own_empty (w := w4.alloc (.cells #[.int .i64 x] 3)) (B := w4.heap.size) (by simp)
                    rw [World.size_alloc] at this
                    exact ownI_drew this
                  have hB0 : Below w4.heap.size w4 ((w4.alloc (.cells #[.int .i64 x] 3)).alloc (.cells #[] 3)).drew := b_drew (b_alloc (b_alloc (Below.refl _ _) _) _)
                  have rx0 : ReadI ((w4.alloc (.cells #[.int .i64 x] 3)).alloc (.cells #[] 3)).drew (.slice (some ⟨w4.heap.size, 0, none⟩) 1 1) [x] := readI_drew (readI_below (read_one w4 x) (b_alloc (Below.refl _ _) _))
                  refine wpAnyH_ready (rs := [10]) (by kernel_rfl) (by simp) (AllReadyH.cons rfl (fun K hK => ?_) AllReadyH.nil)
                  refine step_want (by kernel_rfl) ?_
                  refine wp_appendI _ _ (by rfl) w4.heap.size _ [] (by rfl) own0 _ q (by rfl) (readI_below hr4u hB0) (by simp; omega) hB0.size (fun v5 w5 own5 hg5 => ?_)
                  rw [List.nil_append] at own5
                  have hB5 : Below w4.heap.size w4 w5 := b_own hB0 own0 hg5
                  have rx : ReadI w5 (.slice (some ⟨w4.heap.size, 0, none⟩) 1 1) [x] := readI_kept rx0 (fun y hy hlt => hg5.block y hlt (fun e => by have e1 : some y = some w4.heap.size := hy.symm; have e2 : some y = some (w4.heap.size + 1) := e; rw [e1] at e2; injection e2; omega)) hg5.size
                  clear rx0
                  refine hK.out _ _ (HS.out _ hB5) (fun hHeld => ?_)
                  clear hK K
                  (try simp only [Act.put, List.getElem_toArray, List.getElem_cons_succ, List.getElem_cons_zero, List.setIfInBounds_toArray, List.set_cons_zero, List.set_cons_succ])
                  refine wpAnyH_ready (rs := [14]) (by kernel_rfl) (by simp) (AllReadyH.cons rfl (fun K hK => ?_) AllReadyH.nil)
                  refine step_want (by kernel_rfl) ?_
                  refine wp_appendI _ _ (by rfl) w4.heap.size _ q (by rfl) own5 _ [x] (by rfl) rx (by simp; omega) hB5.size (fun v6 w6 own6 hg6 => ?_)
                  have hB6 : Below w4.heap.size w4 w6 := b_own hB5 own5 hg6
                  obtain ⟨g6, cap6, hv6, f1, f2, f3, f4, f5, f6⟩ := ownI_form own6 (by simp)
                  rw [hv6]
                  clear own6 hv6 hg6
                  refine hK.out _ _ (HS.out _ hB6) (fun hHeld => ?_)
                  clear hK K
                  (try simp only [Act.put, List.getElem_toArray, List.getElem_cons_succ, List.getElem_cons_zero, List.setIfInBounds_toArray, List.set_cons_zero, List.set_cons_succ])
                  have H6 : Hid (∀ w', Below w6.heap.size w6 w' → w'.cell? ⟨g6, 0, none⟩ = some (.int .i64 (putO m q x))) := Lib.hid (fun w' hb => by rw [HO.out]; exact (hb.cell (p := ⟨g6, 0, none⟩) f2).trans (f5 0 (by simp)))
                  clear f5 f6
                  refine wpAnyH_switch (S' := (fun w' => w'.cell? ⟨g, 1, none⟩ = some (.int .i64 x) ∧ w'.cell? ⟨g6, 0, none⟩ = some (.int .i64 (putO m q x)))) (fun _ h => h.1) ⟨HS.out _ (by first | exact hB6 | exact b_drew hB6), H6.out _ (by (repeat' (first | exact Below.refl _ _ | assumption | refine b_alloc ?_ _ | refine b_over ?_ _ | refine b_drew ?_ | refine b_call ?_ (by assumption))))⟩ (fun hHeld => ?_)
                  have tl1 : (0 : Int) < ((q ++ [x]).length : Int) := by simp
                  (refine wpAnyH_take (i := 15) (v := ?_) rfl (by kernel_rfl) (by kernel_rfl) (by kernel_rfl) (fun _ _ _ h => h) (Or.inl ⟨by rfl, ?_⟩) hHeld ?_; rotate_left; (focus (intro w hSw; (try dsimp only at hSw); go_simp; try (with_reducible rfl))); (try simp only [Act.put, List.getElem_toArray, List.getElem_cons_succ, List.getElem_cons_zero, List.setIfInBounds_toArray, List.set_cons_zero, List.set_cons_succ]))
                  (refine wpAnyH_take (i := 16) (v := ?_) rfl (by kernel_rfl) (by kernel_rfl) (by kernel_rfl) (fun _ _ _ h => h) (Or.inl ⟨by rfl, ?_⟩) hHeld ?_; rotate_left; (focus (intro w hSw; (try dsimp only at hSw); go_simp; try (with_reducible rfl))); (try simp only [Act.put, List.getElem_toArray, List.getElem_cons_succ, List.getElem_cons_zero, List.setIfInBounds_toArray, List.set_cons_zero, List.set_cons_succ]))
                  (refine wpAnyH_take (i := 17) (v := ?_) rfl (by kernel_rfl) (by kernel_rfl) (by kernel_rfl) (fun _ _ _ h => h) (Or.inl ⟨by rfl, ?_⟩) hHeld ?_; rotate_left; (focus (intro w hSw; (try dsimp only at hSw); go_simp; try (with_reducible rfl))); (try simp only [Act.put, List.getElem_toArray, List.getElem_cons_succ, List.getElem_cons_zero, List.setIfInBounds_toArray, List.set_cons_zero, List.set_cons_succ]))
                  (refine wpAnyH_take (i := 18) (v := ?_) rfl (by kernel_rfl) (by kernel_rfl) (by kernel_rfl) (fun _ _ _ h => h) (Or.inl ⟨by rfl, ?_⟩) hHeld ?_; rotate_left; (focus (intro w hSw; (try dsimp only at hSw); go_simp; try (with_reducible rfl))); (try simp only [Act.put, List.getElem_toArray, List.getElem_cons_succ, List.getElem_cons_zero, List.setIfInBounds_toArray, List.set_cons_zero, List.set_cons_succ]))
                  (refine wpAnyH_take (i := 19) (v := ?_) rfl (by kernel_rfl) (by kernel_rfl) (by kernel_rfl) (fun _ _ _ h => h) (Or.inl ⟨by rfl, ?_⟩) hHeld ?_; rotate_left; (focus (intro w hSw; (try dsimp only at hSw); go_simp; try (with_reducible rfl))); (try simp only [Act.put, List.getElem_toArray, List.getElem_cons_succ, List.getElem_cons_zero, List.setIfInBounds_toArray, List.set_cons_zero, List.set_cons_succ]))
                  (refine wpAnyH_take (i := 20) (v := ?_) rfl (by kernel_rfl) (by kernel_rfl) (by kernel_rfl) (fun _ _ _ h => h) (Or.inl ⟨by rfl, ?_⟩) hHeld ?_; rotate_left; (focus (intro w hSw; (try dsimp only at hSw); go_simp; try (with_reducible rfl))); (try simp only [Act.put, List.getElem_toArray, List.getElem_cons_succ, List.getElem_cons_zero, List.setIfInBounds_toArray, List.set_cons_zero, List.set_cons_succ]))
                  (refine wpAnyH_take (i := 21) (v := ?_) rfl (by kernel_rfl) (by kernel_rfl) (by kernel_rfl) (fun _ _ _ h => h) (Or.inl ⟨by rfl, ?_⟩) hHeld ?_; rotate_left; (focus (intro w hSw; (try dsimp only at hSw); go_simp; try (with_reducible rfl))); (try simp only [Act.put, List.getElem_toArray, List.getElem_cons_succ, List.getElem_cons_zero, List.setIfInBounds_toArray, List.set_cons_zero, List.set_cons_succ]))
                  (refine wpAnyH_take (i := 22) (v := ?_) rfl (by kernel_rfl) (by kernel_rfl) (by kernel_rfl) (fun _ _ _ h => h) (Or.inl ⟨by rfl, ?_⟩) hHeld ?_; rotate_left; (focus (intro w hSw; (try dsimp only at hSw); go_simp; try (with_reducible rfl))); (try simp only [Act.put, List.getElem_toArray, List.getElem_cons_succ, List.getElem_cons_zero, List.setIfInBounds_toArray, List.set_cons_zero, List.set_cons_succ]))
                  (refine wpAnyH_take (i := 23) (v := ?_) rfl (by kernel_rfl) (by kernel_rfl) (by kernel_rfl) (fun _ _ _ h => h) (Or.inl ⟨by rfl, ?_⟩) hHeld ?_; rotate_left; (focus (intro w hSw; (try dsimp only at hSw); go_simp; try (with_reducible rfl))); (try simp only [Act.put, List.getElem_toArray, List.getElem_cons_succ, List.getElem_cons_zero, List.setIfInBounds_toArray, List.set_cons_zero, List.set_cons_succ]))
                  (refine wpAnyH_take (i := 24) (v := _) rfl (by kernel_rfl) (by kernel_rfl) (by kernel_rfl) (fun _ _ _ h => h) (Or.inr ⟨by rfl, rfl⟩) hHeld ?_; (try simp only [Act.put, List.getElem_toArray, List.getElem_cons_succ, List.getElem_cons_zero, List.setIfInBounds_toArray, List.set_cons_zero, List.set_cons_succ]))
                  (refine wpAnyH_take (i := 25) (v := _) rfl (by kernel_rfl) (by kernel_rfl) (by kernel_rfl) (fun _ _ _ h => h) (Or.inr ⟨by rfl, rfl⟩) hHeld ?_; (try simp only [Act.put, List.getElem_toArray, List.getElem_cons_succ, List.getElem_cons_zero, List.setIfInBounds_toArray, List.set_cons_zero, List.set_cons_succ]))
                  (refine wpAnyH_take (i := 26) (v := ?_) rfl (by kernel_rfl) (by kernel_rfl) (by kernel_rfl) (fun _ _ _ h => h) (Or.inl ⟨by rfl, ?_⟩) hHeld ?_; rotate_left; (focus (intro w hSw; (try dsimp only at hSw); go_simp; try (with_reducible rfl))); (try simp only [Act.put, List.getElem_toArray, List.getElem_cons_succ, List.getElem_cons_zero, List.setIfInBounds_toArray, List.set_cons_zero, List.set_cons_succ]))
                  (refine wpAnyH_take (i := 27) (v := ?_) rfl (by kernel_rfl) (by kernel_rfl) (by kernel_rfl) (fun _ _ _ h => h) (Or.inl ⟨by rfl, ?_⟩) hHeld ?_; rotate_left; (focus (intro w hSw; (try dsimp only at hSw); go_simp; try (with_reducible rfl))); (try simp only [Act.put, List.getElem_toArray, List.getElem_cons_succ, List.getElem_cons_zero, List.setIfInBounds_toArray, List.set_cons_zero, List.set_cons_succ]))
                  refine wpAnyH_done (by kernel_rfl) ?_ _
                  have P6 := Lib.hid (qst_below P4.out hB6)
                  clear hHeld own5 rx hB5 H6 HS f1 f2 f3 f4 tl1

                  obtain ⟨hqT, hrT, hvT, hbT⟩ := P6.out
                  have hlT : (putL m q x).length ≤ 64 := by have := HPL.out; omega
                  have t0T : ((((putL m q x).length : Nat) : Int) != (((putL m q x).length : Nat) : Int)) = false := by simp
                  have HLT := Lib.hid hlT
                  have HLN := Lib.hid (qlen_list b m _ _ hqT)
                  have HAL := Lib.hid (qall_any b m _ _ hqT)
                  have HRT := Lib.hid hrT
                  have LBT := Lib.hid hbT.size
                  clear hqT hrT hvT hbT hlT
                  go_wp2_with fail
                  refine HLN.out.mono ?_
                  rintro e wL ⟨rfl, rfl⟩
                  go_wp2_with fail
                  refine HAL.out.mono ?_
                  rintro e wA ⟨vA, rfl, ownA, hbA⟩
                  have hsm := same11_any vA _ _ _ wA (ownI_read ownA) (readI_below HRT.out hbA) (by have := HLT.out; omega) (by have := HLT.out; omega)
                  rw [decide_eq_true rfl] at hsm
                  have HSM := Lib.hid hsm
                  have PA := Lib.hid (qst_below P6.out hbA)
                  clear hsm ownA
                  go_wp2_with fail
                  refine HSM.out.mono ?_
                  rintro e wS ⟨rfl, hbS⟩
                  have PS := Lib.hid (qst_below PA.out hbS)
                  go_wp2_with fail
                  exact ⟨⟨k + 1, _, by omega, by go_num, PS⟩, by simp only [intOf]; omega⟩
          · obtain ⟨g, hg⟩ : ∃ g, g = wr.heap.size := ⟨_, rfl⟩
            obtain ⟨w2, hw2⟩ : ∃ w2, w2 = wr.alloc (.cells #[.int .i64 2, .int .i64 x] 53) := ⟨_, rfl⟩
            go_upto_region 11 with fail
            rw [← hw2] at HQ1
            rw [← hw2, ← hg] at HBX
            rw [← hw2, ← hg]
            have hbg : b ≠ g := by omega
            have hsx := (blk2 HBX.out)
            obtain ⟨s0, s1, sf⟩ := hsx
            have hss := HBX.out.1
            obtain ⟨hq1, hr1, hv1, hb1⟩ := HQ1.out
            clear hw2 hg d0 d1 hB

            go_wp2_with fail
            refine (qput_any b m q x _ hq1).mono ?_
            rintro e w3 ⟨rfl, hq3, hg3⟩
            have hr3 : ReadI w3 u6 q := readI_kept hr1 (fun y hy hlt => hg3.block y hlt (fun e => hv y hy (by cases e; rfl))) hg3.size
            have hsx3 : w3.cell? ⟨g, 1, none⟩ = some (.int .i64 x) := (hg3.cell_far _ hss (fun e => hbg (by cases e; rfl))).trans s1
            have hss3 : g < w3.heap.size := Nat.lt_of_lt_of_le hss hg3.size
            have hb3 := b_gb hb1 hg3 hbw
            clear s0 s1 sf
            go_upto_region 12 with fail
            go_region_held3 (fun w' => w'.cell? ⟨g, 1, none⟩ = some (.int .i64 x))
              (first | go_keep | (exact (hb4.cell (p := ⟨g, 1, none⟩) (by simpa using hss3)).trans (by simpa using hsx3)))
              (first
                | (go_at_call 26; refine (rqmost_any most _).mono ?_; rintro e w4 ⟨rfl, rfl⟩; rw [← HM.out])
                | (go_at_call 42; refine (rqput_any u6 q m x _ (by exact hr3) (by omega) hm64).mono ?_; rintro e w4 ⟨v4, rfl, hr4, hv4, hb4⟩))
            have hb4' : Below w.heap.size w w4 := b_call (b_drew hb3) hb4
            have hq4 : QL w4 b m (putL m q x) := ql_below (ql_drew hq3) hb4
            have hr4u : ReadI w4 u6 q := readI_below (readI_drew hr3) hb4
            have hv4b : ∀ y, v4.ownBlock = some y → y ≠ b := fun y hy e => by have h1 := hv4 y hy; have h2 := ql_lt hq3; simp at h1; omega
            have hsx4 : w4.cell? ⟨g, 1, none⟩ = some (.int .i64 x) := (hb4.cell (p := ⟨g, 1, none⟩) (by simpa using hss3)).trans (by simpa using hsx3)
            have hss4 : g < w4.heap.size := Nat.lt_of_lt_of_le hss3 hb4.size
            have P4 : Hid (QSt w w4 b m (putL m q x) v4) := ⟨hq4, hr4, hv4b, hb4'⟩
            obtain ⟨a4, cap4, rfl⟩ := readI_len hr4
            have hpl := putL_le (x := x) hql
            have HPL := Lib.hid hpl
            clear hq4 hr4 hb3 hq3 hr3 hsx3 hss3 hg3 hb4 hq1 hr1 hpl hv4 hv4b
            cases hpb : putB m q with
            | false =>
              as_aux_lemma =>
                have hn : putN m q = 0 := by unfold putN; rw [hpb]; rfl
                have ho : putO m q x = 0 := by unfold putO; rw [if_pos (by unfold putB at hpb; simpa using hpb)]
                go_upto_region 13 with fail
                refine wp_region_over_lit (by kernel_rfl) (by kernel_rfl) ?_
                repeat (first | go_big_quiet_step (fail) | quiet_step (fail))
                refine wpQuiet_nil ?_
                intro w6 hb6; replace hb6 := over_elim hb6; obtain ⟨hc6, hf6⟩ := bcell hb6; have hz6 := hb6.size; try simp only [World.size_alloc, World.size_setCell, World.size_drew] at hz6
                have P6 := Lib.hid (qst_below P4.out hb6)
                clear hc6 hf6

                obtain ⟨hqT, hrT, hvT, hbT⟩ := P6.out
                have hlT : (putL m q x).length ≤ 64 := by have := HPL.out; omega
                have t0T : ((((putL m q x).length : Nat) : Int) != (((putL m q x).length : Nat) : Int)) = false := by simp
                have HLT := Lib.hid hlT
                have HLN := Lib.hid (qlen_list b m _ _ hqT)
                have HAL := Lib.hid (qall_any b m _ _ hqT)
                have HRT := Lib.hid hrT
                have LBT := Lib.hid hbT.size
                clear hqT hrT hvT hbT hlT
                go_wp2_with fail
                refine HLN.out.mono ?_
                rintro e wL ⟨rfl, rfl⟩
                go_wp2_with fail
                refine HAL.out.mono ?_
                rintro e wA ⟨vA, rfl, ownA, hbA⟩
                have hsm := same11_any vA _ _ _ wA (ownI_read ownA) (readI_below HRT.out hbA) (by have := HLT.out; omega) (by have := HLT.out; omega)
                rw [decide_eq_true rfl] at hsm
                have HSM := Lib.hid hsm
                have PA := Lib.hid (qst_below P6.out hbA)
                clear hsm ownA
                go_wp2_with fail
                refine HSM.out.mono ?_
                rintro e wS ⟨rfl, hbS⟩
                have PS := Lib.hid (qst_below PA.out hbS)
                go_wp2_with fail
                exact ⟨⟨k + 1, _, by omega, by go_num, PS⟩, by simp only [intOf]; omega⟩
            | true =>
              as_aux_lemma =>
                have hn : putN m q = 1 := by unfold putN; rw [hpb]; rfl
                have ho : putO m q x = (q ++ [x]).getD 0 0 := by unfold putO; rw [if_neg (by unfold putB at hpb; simpa using hpb)]; cases q <;> rfl
                have HO := Lib.hid ho; clear ho
                go_upto_region 13 with fail
                have HS : Hid (∀ w', Below w4.heap.size w4 w' → w'.cell? ⟨g, 1, none⟩ = some (.int .i64 x)) := Lib.hid (fun w' hb => (hb.cell (p := ⟨g, 1, none⟩) hss4).trans hsx4)
                refine wp_region_held_drew (S := (fun w' => w'.cell? ⟨g, 1, none⟩ = some (.int .i64 x))) (by kernel_rfl) (HS.out _ (b_drew (Below.refl _ _))) (fun hHeld => ?_)
                (refine wpAnyH_take (i := 0) (v := ?_) rfl (by kernel_rfl) (by kernel_rfl) (by kernel_rfl) (fun _ _ _ h => h) (Or.inl ⟨by rfl, ?_⟩) hHeld ?_; rotate_left; (focus (intro w hSw; (try dsimp only at hSw); go_simp; try (with_reducible rfl))); (try simp only [Act.put, List.getElem_toArray, List.getElem_cons_succ, List.getElem_cons_zero, List.setIfInBounds_toArray, List.set_cons_zero, List.set_cons_succ]))
                (refine wpAnyH_take (i := 1) (v := ?_) rfl (by kernel_rfl) (by kernel_rfl) (by kernel_rfl) (fun _ _ _ h => h) (Or.inl ⟨by rfl, ?_⟩) hHeld ?_; rotate_left; (focus (intro w hSw; (try dsimp only at hSw); go_simp; try (with_reducible rfl))); (try simp only [Act.put, List.getElem_toArray, List.getElem_cons_succ, List.getElem_cons_zero, List.setIfInBounds_toArray, List.set_cons_zero, List.set_cons_succ]))
                (refine wpAnyH_take (i := 2) (v := ?_) rfl (by kernel_rfl) (by kernel_rfl) (by kernel_rfl) (fun _ _ _ h => h) (Or.inl ⟨by rfl, ?_⟩) hHeld ?_; rotate_left; (focus (intro w hSw; (try dsimp only at hSw); go_simp; try (with_reducible rfl))); (try simp only [Act.put, List.getElem_toArray, List.getElem_cons_succ, List.getElem_cons_zero, List.setIfInBounds_toArray, List.set_cons_zero, List.set_cons_succ]))
                (refine wpAnyH_take (i := 3) (v := ?_) rfl (by kernel_rfl) (by kernel_rfl) (by kernel_rfl) (fun _ _ _ h => h) (Or.inl ⟨by rfl, ?_⟩) hHeld ?_; rotate_left; (focus (intro w hSw; (try dsimp only at hSw); go_simp; try (with_reducible rfl))); (try simp only [Act.put, List.getElem_toArray, List.getElem_cons_succ, List.getElem_cons_zero, List.setIfInBounds_toArray, List.set_cons_zero, List.set_cons_succ]))
                (refine wpAnyH_take (i := 4) (v := ?_) rfl (by kernel_rfl) (by kernel_rfl) (by kernel_rfl) (fun _ _ _ h => h) (Or.inl ⟨by rfl, ?_⟩) hHeld ?_; rotate_left; (focus (intro w hSw; (try dsimp only at hSw); go_simp; try (with_reducible rfl))); (try simp only [Act.put, List.getElem_toArray, List.getElem_cons_succ, List.getElem_cons_zero, List.setIfInBounds_toArray, List.set_cons_zero, List.set_cons_succ]))
                (refine wpAnyH_take (i := 5) (v := ?_) rfl (by kernel_rfl) (by kernel_rfl) (by kernel_rfl) (fun _ _ _ h => h) (Or.inl ⟨by rfl, ?_⟩) hHeld ?_; rotate_left; (focus (intro w hSw; (try dsimp only at hSw); go_simp; try (with_reducible rfl))); (try simp only [Act.put, List.getElem_toArray, List.getElem_cons_succ, List.getElem_cons_zero, List.setIfInBounds_toArray, List.set_cons_zero, List.set_cons_succ]))
                (refine wpAnyH_take (i := 6) (v := ?_) rfl (by kernel_rfl) (by kernel_rfl) (by kernel_rfl) (fun _ _ _ h => h) (Or.inl ⟨by rfl, ?_⟩) hHeld ?_; rotate_left; (focus (intro w hSw; (try dsimp only at hSw); go_simp; try (with_reducible rfl))); (try simp only [Act.put, List.getElem_toArray, List.getElem_cons_succ, List.getElem_cons_zero, List.setIfInBounds_toArray, List.set_cons_zero, List.set_cons_succ]))
                (refine wpAnyH_take (i := 7) (v := ?_) rfl (by kernel_rfl) (by kernel_rfl) (by kernel_rfl) (fun _ _ _ h => h) (Or.inl ⟨by rfl, ?_⟩) hHeld ?_; rotate_left; (focus (intro w hSw; (try dsimp only at hSw); go_simp; try (with_reducible rfl))); (try simp only [Act.put, List.getElem_toArray, List.getElem_cons_succ, List.getElem_cons_zero, List.setIfInBounds_toArray, List.set_cons_zero, List.set_cons_succ]))
                (refine wpAnyH_take (i := 9) (v := ?_) rfl (by kernel_rfl) (by kernel_rfl) (by kernel_rfl) (fun _ _ _ h => h) (Or.inl ⟨by rfl, ?_⟩) hHeld ?_; rotate_left; (focus (intro w hSw; (try dsimp only at hSw); go_simp; try (with_reducible rfl))); (try simp only [Act.put, List.getElem_toArray, List.getElem_cons_succ, List.getElem_cons_zero, List.setIfInBounds_toArray, List.set_cons_zero, List.set_cons_succ]))
                (refine wpAnyH_take (i := 11) (v := ?_) rfl (by kernel_rfl) (by kernel_rfl) (by kernel_rfl) (fun _ _ _ h => h) (Or.inl ⟨by rfl, ?_⟩) hHeld ?_; rotate_left; (focus (intro w hSw; (try dsimp only at hSw); go_simp; try (with_reducible rfl))); (try simp only [Act.put, List.getElem_toArray, List.getElem_cons_succ, List.getElem_cons_zero, List.setIfInBounds_toArray, List.set_cons_zero, List.set_cons_succ]))
                (refine wpAnyH_take (i := 12) (v := ?_) rfl (by kernel_rfl) (by kernel_rfl) (by kernel_rfl) (fun _ _ _ h => h) (Or.inl ⟨by rfl, ?_⟩) hHeld ?_; rotate_left; (focus (intro w hSw; (try dsimp only at hSw); go_simp; try (with_reducible rfl))); (try simp only [Act.put, List.getElem_toArray, List.getElem_cons_succ, List.getElem_cons_zero, List.setIfInBounds_toArray, List.set_cons_zero, List.set_cons_succ]))
                refine wpAnyH_ready (rs := [8, 13]) (by kernel_rfl) (by simp) (AllReadyH.cons rfl (fun K hK => ?_) (AllReadyH.cons rfl (fun K hK => ?_) AllReadyH.nil))
                · go_simp
                  refine hK.out _ _ (HS.out _ (by (repeat' (first | exact Below.refl _ _ | assumption | refine b_alloc ?_ _ | refine b_over ?_ _ | refine b_drew ?_ | refine b_call ?_ (by assumption))))) (fun hHeld => ?_)
                  clear hK K
                  (try simp only [Act.put, List.getElem_toArray, List.getElem_cons_succ, List.getElem_cons_zero, List.setIfInBounds_toArray, List.set_cons_zero, List.set_cons_succ])
                  refine wpAnyH_ready (rs := [10, 13]) (by kernel_rfl) (by simp) (AllReadyH.cons rfl (fun K hK => ?_) (AllReadyH.cons rfl (fun K hK => ?_) AllReadyH.nil))
                  · have own0 : OwnI (w4.alloc (.cells #[] 3)).drew w4.heap.size (.slice (some ⟨w4.heap.size, 0, none⟩) 0 0) [] := ownI_drew (own_empty (Nat.le_refl _))
                    have hB0 : Below w4.heap.size w4 (w4.alloc (.cells #[] 3)).drew := b_drew (b_alloc (Below.refl _ _) _)
                    refine step_want (by kernel_rfl) ?_
                    refine wp_appendI _ _ (by rfl) w4.heap.size _ [] (by rfl) own0 _ q (by rfl) (readI_below hr4u hB0) (by simp; omega) hB0.size (fun v5 w5 own5 hg5 => ?_)
                    rw [List.nil_append] at own5
                    have hB5' : Below w4.heap.size w4 w5 := b_own hB0 own0 hg5
                    refine hK.out _ _ (HS.out _ hB5') (fun hHeld => ?_)
                    clear hK K
                    (try simp only [Act.put, List.getElem_toArray, List.getElem_cons_succ, List.getElem_cons_zero, List.setIfInBounds_toArray, List.set_cons_zero, List.set_cons_succ])
                    refine wpAnyH_ready (rs := [13]) (by kernel_rfl) (by simp) (AllReadyH.cons rfl (fun K hK => ?_) AllReadyH.nil)
                    go_simp
                    refine hK.out _ _ (HS.out _ (by first | exact b_drew (b_alloc hB5' _) | exact b_alloc hB5' _)) (fun hHeld => ?_)
                    clear hK K
                    (try simp only [Act.put, List.getElem_toArray, List.getElem_cons_succ, List.getElem_cons_zero, List.setIfInBounds_toArray, List.set_cons_zero, List.set_cons_succ])
                    have hB5 : Below w4.heap.size w4 (w5.alloc (.cells #[.int .i64 x] 3)) := b_alloc hB5' _
                    replace own5 := ownI_alloc own5 (.cells #[.int .i64 x] 3)
                    have rx := read_one w5 x
                    refine wpAnyH_ready (rs := [14]) (by kernel_rfl) (by simp) (AllReadyH.cons rfl (fun K hK => ?_) AllReadyH.nil)
                    refine step_want (by kernel_rfl) ?_
                    refine wp_appendI _ _ (by rfl) w4.heap.size _ q (by rfl) own5 _ [x] (by rfl) rx (by simp; omega) hB5.size (fun v6 w6 own6 hg6 => ?_)
                    have hB6 : Below w4.heap.size w4 w6 := b_own hB5 own5 hg6
                    obtain ⟨g6, cap6, hv6, f1, f2, f3, f4, f5, f6⟩ := ownI_form own6 (by simp)
                    rw [hv6]
                    clear own6 hv6 hg6
                    refine hK.out _ _ (HS.out _ hB6) (fun hHeld => ?_)
                    clear hK K
                    (try simp only [Act.put, List.getElem_toArray, List.getElem_cons_succ, List.getElem_cons_zero, List.setIfInBounds_toArray, List.set_cons_zero, List.set_cons_succ])
                    have H6 : Hid (∀ w', Below w6.heap.size w6 w' → w'.cell? ⟨g6, 0, none⟩ = some (.int .i64 (putO m q x))) := Lib.hid (fun w' hb => by rw [HO.out]; exact (hb.cell (p := ⟨g6, 0, none⟩) f2).trans (f5 0 (by simp)))
                    clear f5 f6
                    refine wpAnyH_switch (S' := (fun w' => w'.cell? ⟨g, 1, none⟩ = some (.int .i64 x) ∧ w'.cell? ⟨g6, 0, none⟩ = some (.int .i64 (putO m q x)))) (fun _ h => h.1) ⟨HS.out _ (by first | exact hB6 | exact b_drew hB6), H6.out _ (by (repeat' (first | exact Below.refl _ _ | assumption | refine b_alloc ?_ _ | refine b_over ?_ _ | refine b_drew ?_ | refine b_call ?_ (by assumption))))⟩ (fun hHeld => ?_)
                    have tl1 : (0 : Int) < ((q ++ [x]).length : Int) := by simp
                    (refine wpAnyH_take (i := 15) (v := ?_) rfl (by kernel_rfl) (by kernel_rfl) (by kernel_rfl) (fun _ _ _ h => h) (Or.inl ⟨by rfl, ?_⟩) hHeld ?_; rotate_left; (focus (intro w hSw; (try dsimp only at hSw); go_simp; try (with_reducible rfl))); (try simp only [Act.put, List.getElem_toArray, List.getElem_cons_succ, List.getElem_cons_zero, List.setIfInBounds_toArray, List.set_cons_zero, List.set_cons_succ]))
                    (refine wpAnyH_take (i := 16) (v := ?_) rfl (by kernel_rfl) (by kernel_rfl) (by kernel_rfl) (fun _ _ _ h => h) (Or.inl ⟨by rfl, ?_⟩) hHeld ?_; rotate_left; (focus (intro w hSw; (try dsimp only at hSw); go_simp; try (with_reducible rfl))); (try simp only [Act.put, List.getElem_toArray, List.getElem_cons_succ, List.getElem_cons_zero, List.setIfInBounds_toArray, List.set_cons_zero, List.set_cons_succ]))
                    (refine wpAnyH_take (i := 17) (v := ?_) rfl (by kernel_rfl) (by kernel_rfl) (by kernel_rfl) (fun _ _ _ h => h) (Or.inl ⟨by rfl, ?_⟩) hHeld ?_; rotate_left; (focus (intro w hSw; (try dsimp only at hSw); go_simp; try (with_reducible rfl))); (try simp only [Act.put, List.getElem_toArray, List.getElem_cons_succ, List.getElem_cons_zero, List.setIfInBounds_toArray, List.set_cons_zero, List.set_cons_succ]))
                    (refine wpAnyH_take (i := 18) (v := ?_) rfl (by kernel_rfl) (by kernel_rfl) (by kernel_rfl) (fun _ _ _ h => h) (Or.inl ⟨by rfl, ?_⟩) hHeld ?_; rotate_left; (focus (intro w hSw; (try dsimp only at hSw); go_simp; try (with_reducible rfl))); (try simp only [Act.put, List.getElem_toArray, List.getElem_cons_succ, List.getElem_cons_zero, List.setIfInBounds_toArray, List.set_cons_zero, List.set_cons_succ]))
                    (refine wpAnyH_take (i := 19) (v := ?_) rfl (by kernel_rfl) (by kernel_rfl) (by kernel_rfl) (fun _ _ _ h => h) (Or.inl ⟨by rfl, ?_⟩) hHeld ?_; rotate_left; (focus (intro w hSw; (try dsimp only at hSw); go_simp; try (with_reducible rfl))); (try simp only [Act.put, List.getElem_toArray, List.getElem_cons_succ, List.getElem_cons_zero, List.setIfInBounds_toArray, List.set_cons_zero, List.set_cons_succ]))
                    (refine wpAnyH_take (i := 20) (v := ?_) rfl (by kernel_rfl) (by kernel_rfl) (by kernel_rfl) (fun _ _ _ h => h) (Or.inl ⟨by rfl, ?_⟩) hHeld ?_; rotate_left; (focus (intro w hSw; (try dsimp only at hSw); go_simp; try (with_reducible rfl))); (try simp only [Act.put, List.getElem_toArray, List.getElem_cons_succ, List.getElem_cons_zero, List.setIfInBounds_toArray, List.set_cons_zero, List.set_cons_succ]))
                    (refine wpAnyH_take (i := 21) (v := ?_) rfl (by kernel_rfl) (by kernel_rfl) (by kernel_rfl) (fun _ _ _ h => h) (Or.inl ⟨by rfl, ?_⟩) hHeld ?_; rotate_left; (focus (intro w hSw; (try dsimp only at hSw); go_simp; try (with_reducible rfl))); (try simp only [Act.put, List.getElem_toArray, List.getElem_cons_succ, List.getElem_cons_zero, List.setIfInBounds_toArray, List.set_cons_zero, List.set_cons_succ]))
                    (refine wpAnyH_take (i := 22) (v := ?_) rfl (by kernel_rfl) (by kernel_rfl) (by kernel_rfl) (fun _ _ _ h => h) (Or.inl ⟨by rfl, ?_⟩) hHeld ?_; rotate_left; (focus (intro w hSw; (try dsimp only at hSw); go_simp; try (with_reducible rfl))); (try simp only [Act.put, List.getElem_toArray, List.getElem_cons_succ, List.getElem_cons_zero, List.setIfInBounds_toArray, List.set_cons_zero, List.set_cons_succ]))
                    (refine wpAnyH_take (i := 23) (v := ?_) rfl (by kernel_rfl) (by kernel_rfl) (by kernel_rfl) (fun _ _ _ h => h) (Or.inl ⟨by rfl, ?_⟩) hHeld ?_; rotate_left; (focus (intro w hSw; (try dsimp only at hSw); go_simp; try (with_reducible rfl))); (try simp only [Act.put, List.getElem_toArray, List.getElem_cons_succ, List.getElem_cons_zero, List.setIfInBounds_toArray, List.set_cons_zero, List.set_cons_succ]))
                    (refine wpAnyH_take (i := 24) (v := _) rfl (by kernel_rfl) (by kernel_rfl) (by kernel_rfl) (fun _ _ _ h => h) (Or.inr ⟨by rfl, rfl⟩) hHeld ?_; (try simp only [Act.put, List.getElem_toArray, List.getElem_cons_succ, List.getElem_cons_zero, List.setIfInBounds_toArray, List.set_cons_zero, List.set_cons_succ]))
                    (refine wpAnyH_take (i := 25) (v := _) rfl (by kernel_rfl) (by kernel_rfl) (by kernel_rfl) (fun _ _ _ h => h) (Or.inr ⟨by rfl, rfl⟩) hHeld ?_; (try simp only [Act.put, List.getElem_toArray, List.getElem_cons_succ, List.getElem_cons_zero, List.setIfInBounds_toArray, List.set_cons_zero, List.set_cons_succ]))
                    (refine wpAnyH_take (i := 26) (v := ?_) rfl (by kernel_rfl) (by kernel_rfl) (by kernel_rfl) (fun _ _ _ h => h) (Or.inl ⟨by rfl, ?_⟩) hHeld ?_; rotate_left; (focus (intro w hSw; (try dsimp only at hSw); go_simp; try (with_reducible rfl))); (try simp only [Act.put, List.getElem_toArray, List.getElem_cons_succ, List.getElem_cons_zero, List.setIfInBounds_toArray, List.set_cons_zero, List.set_cons_succ]))
                    (refine wpAnyH_take (i := 27) (v := ?_) rfl (by kernel_rfl) (by kernel_rfl) (by kernel_rfl) (fun _ _ _ h => h) (Or.inl ⟨by rfl, ?_⟩) hHeld ?_; rotate_left; (focus (intro w hSw; (try dsimp only at hSw); go_simp; try (with_reducible rfl))); (try simp only [Act.put, List.getElem_toArray, List.getElem_cons_succ, List.getElem_cons_zero, List.setIfInBounds_toArray, List.set_cons_zero, List.set_cons_succ]))
                    refine wpAnyH_done (by kernel_rfl) ?_ _
                    have P6 := Lib.hid (qst_below P4.out hB6)
                    clear hHeld own5 rx hB5 H6 HS f1 f2 f3 f4 tl1

                    obtain ⟨hqT, hrT, hvT, hbT⟩ := P6.out
                    have hlT : (putL m q x).length ≤ 64 := by have := HPL.out; omega
                    have t0T : ((((putL m q x).length : Nat) : Int) != (((putL m q x).length : Nat) : Int)) = false := by simp
                    have HLT := Lib.hid hlT
                    have HLN := Lib.hid (qlen_list b m _ _ hqT)
                    have HAL := Lib.hid (qall_any b m _ _ hqT)
                    have HRT := Lib.hid hrT
                    have LBT := Lib.hid hbT.size
                    clear hqT hrT hvT hbT hlT
                    go_wp2_with fail
                    refine HLN.out.mono ?_
                    rintro e wL ⟨rfl, rfl⟩
                    go_wp2_with fail
                    refine HAL.out.mono ?_
                    rintro e wA ⟨vA, rfl, ownA, hbA⟩
                    have hsm := same11_any vA _ _ _ wA (ownI_read ownA) (readI_below HRT.out hbA) (by have := HLT.out; omega) (by have := HLT.out; omega)
                    rw [decide_eq_true rfl] at hsm
                    have HSM := Lib.hid hsm
                    have PA := Lib.hid (qst_below P6.out hbA)
                    clear hsm ownA
                    go_wp2_with fail
                    refine HSM.out.mono ?_
                    rintro e wS ⟨rfl, hbS⟩
                    have PS := Lib.hid (qst_below PA.out hbS)
                    go_wp2_with fail
                    exact ⟨⟨k + 1, _, by omega, by go_num, PS⟩, by simp only [intOf]; omega⟩
                  · go_simp
                    refine hK.out _ _ (HS.out _ (by (repeat' (first | exact Below.refl _ _ | assumption | refine b_alloc ?_ _ | refine b_over ?_ _ | refine b_drew ?_ | refine b_call ?_ (by assumption))))) (fun hHeld => ?_)
                    clear hK K
                    (try simp only [Act.put, List.getElem_toArray, List.getElem_cons_succ, List.getElem_cons_zero, List.setIfInBounds_toArray, List.set_cons_zero, List.set_cons_succ])
                    have own0 : OwnI ((w4.alloc (.cells #[] 3)).alloc (.cells #[.int .i64 x] 3)).drew w4.heap.size (.slice (some ⟨w4.heap.size, 0, none⟩) 0 0) [] := ownI_drew (ownI_alloc (own_empty (Nat.le_refl _)) _)
                    have hB0 : Below w4.heap.size w4 ((w4.alloc (.cells #[] 3)).alloc (.cells #[.int .i64 x] 3)).drew := b_drew (b_alloc (b_alloc (Below.refl _ _) _) _)
                    have rx0 : ReadI ((w4.alloc (.cells #[] 3)).alloc (.cells #[.int .i64 x] 3)).drew (.slice (some ⟨w4.heap.size + 1, 0, none⟩) 1 1) [x] := by
                      have := read_one (w4.alloc (.cells #[] 3)) x
                      rw [World.size_alloc] at this
                      exact readI_drew this
                    refine wpAnyH_ready (rs := [10]) (by kernel_rfl) (by simp) (AllReadyH.cons rfl (fun K hK => ?_) AllReadyH.nil)
                    refine step_want (by kernel_rfl) ?_
                    refine wp_appendI _ _ (by rfl) w4.heap.size _ [] (by rfl) own0 _ q (by rfl) (readI_below hr4u hB0) (by simp; omega) hB0.size (fun v5 w5 own5 hg5 => ?_)
                    rw [List.nil_append] at own5
                    have hB5 : Below w4.heap.size w4 w5 := b_own hB0 own0 hg5
                    have rx : ReadI w5 (.slice (some ⟨w4.heap.size + 1, 0, none⟩) 1 1) [x] := readI_kept rx0 (fun y hy hlt => hg5.block y hlt (fun e => by have e1 : some y = some (w4.heap.size + 1) := hy.symm; have e2 : some y = some w4.heap.size := e; rw [e1] at e2; injection e2; omega)) hg5.size
                    clear rx0
                    refine hK.out _ _ (HS.out _ hB5) (fun hHeld => ?_)
                    clear hK K
                    (try simp only [Act.put, List.getElem_toArray, List.getElem_cons_succ, List.getElem_cons_zero, List.setIfInBounds_toArray, List.set_cons_zero, List.set_cons_succ])
                    refine wpAnyH_ready (rs := [14]) (by kernel_rfl) (by simp) (AllReadyH.cons rfl (fun K hK => ?_) AllReadyH.nil)
                    refine step_want (by kernel_rfl) ?_
                    refine wp_appendI _ _ (by rfl) w4.heap.size _ q (by rfl) own5 _ [x] (by rfl) rx (by simp; omega) hB5.size (fun v6 w6 own6 hg6 => ?_)
                    have hB6 : Below w4.heap.size w4 w6 := b_own hB5 own5 hg6
                    obtain ⟨g6, cap6, hv6, f1, f2, f3, f4, f5, f6⟩ := ownI_form own6 (by simp)
                    rw [hv6]
                    clear own6 hv6 hg6
                    refine hK.out _ _ (HS.out _ hB6) (fun hHeld => ?_)
                    clear hK K
                    (try simp only [Act.put, List.getElem_toArray, List.getElem_cons_succ, List.getElem_cons_zero, List.setIfInBounds_toArray, List.set_cons_zero, List.set_cons_succ])
                    have H6 : Hid (∀ w', Below w6.heap.size w6 w' → w'.cell? ⟨g6, 0, none⟩ = some (.int .i64 (putO m q x))) := Lib.hid (fun w' hb => by rw [HO.out]; exact (hb.cell (p := ⟨g6, 0, none⟩) f2).trans (f5 0 (by simp)))
                    clear f5 f6
                    refine wpAnyH_switch (S' := (fun w' => w'.cell? ⟨g, 1, none⟩ = some (.int .i64 x) ∧ w'.cell? ⟨g6, 0, none⟩ = some (.int .i64 (putO m q x)))) (fun _ h => h.1) ⟨HS.out _ (by first | exact hB6 | exact b_drew hB6), H6.out _ (by (repeat' (first | exact Below.refl _ _ | assumption | refine b_alloc ?_ _ | refine b_over ?_ _ | refine b_drew ?_ | refine b_call ?_ (by assumption))))⟩ (fun hHeld => ?_)
                    have tl1 : (0 : Int) < ((q ++ [x]).length : Int) := by simp
                    (refine wpAnyH_take (i := 15) (v := ?_) rfl (by kernel_rfl) (by kernel_rfl) (by kernel_rfl) (fun _ _ _ h => h) (Or.inl ⟨by rfl, ?_⟩) hHeld ?_; rotate_left; (focus (intro w hSw; (try dsimp only at hSw); go_simp; try (with_reducible rfl))); (try simp only [Act.put, List.getElem_toArray, List.getElem_cons_succ, List.getElem_cons_zero, List.setIfInBounds_toArray, List.set_cons_zero, List.set_cons_succ]))
                    (refine wpAnyH_take (i := 16) (v := ?_) rfl (by kernel_rfl) (by kernel_rfl) (by kernel_rfl) (fun _ _ _ h => h) (Or.inl ⟨by rfl, ?_⟩) hHeld ?_; rotate_left; (focus (intro w hSw; (try dsimp only at hSw); go_simp; try (with_reducible rfl))); (try simp only [Act.put, List.getElem_toArray, List.getElem_cons_succ, List.getElem_cons_zero, List.setIfInBounds_toArray, List.set_cons_zero, List.set_cons_succ]))
                    (refine wpAnyH_take (i := 17) (v := ?_) rfl (by kernel_rfl) (by kernel_rfl) (by kernel_rfl) (fun _ _ _ h => h) (Or.inl ⟨by rfl, ?_⟩) hHeld ?_; rotate_left; (focus (intro w hSw; (try dsimp only at hSw); go_simp; try (with_reducible rfl))); (try simp only [Act.put, List.getElem_toArray, List.getElem_cons_succ, List.getElem_cons_zero, List.setIfInBounds_toArray, List.set_cons_zero, List.set_cons_succ]))
                    (refine wpAnyH_take (i := 18) (v := ?_) rfl (by kernel_rfl) (by kernel_rfl) (by kernel_rfl) (fun _ _ _ h => h) (Or.inl ⟨by rfl, ?_⟩) hHeld ?_; rotate_left; (focus (intro w hSw; (try dsimp only at hSw); go_simp; try (with_reducible rfl))); (try simp only [Act.put, List.getElem_toArray, List.getElem_cons_succ, List.getElem_cons_zero, List.setIfInBounds_toArray, List.set_cons_zero, List.set_cons_succ]))
                    (refine wpAnyH_take (i := 19) (v := ?_) rfl (by kernel_rfl) (by kernel_rfl) (by kernel_rfl) (fun _ _ _ h => h) (Or.inl ⟨by rfl, ?_⟩) hHeld ?_; rotate_left; (focus (intro w hSw; (try dsimp only at hSw); go_simp; try (with_reducible rfl))); (try simp only [Act.put, List.getElem_toArray, List.getElem_cons_succ, List.getElem_cons_zero, List.setIfInBounds_toArray, List.set_cons_zero, List.set_cons_succ]))
                    (refine wpAnyH_take (i := 20) (v := ?_) rfl (by kernel_rfl) (by kernel_rfl) (by kernel_rfl) (fun _ _ _ h => h) (Or.inl ⟨by rfl, ?_⟩) hHeld ?_; rotate_left; (focus (intro w hSw; (try dsimp only at hSw); go_simp; try (with_reducible rfl))); (try simp only [Act.put, List.getElem_toArray, List.getElem_cons_succ, List.getElem_cons_zero, List.setIfInBounds_toArray, List.set_cons_zero, List.set_cons_succ]))
                    (refine wpAnyH_take (i := 21) (v := ?_) rfl (by kernel_rfl) (by kernel_rfl) (by kernel_rfl) (fun _ _ _ h => h) (Or.inl ⟨by rfl, ?_⟩) hHeld ?_; rotate_left; (focus (intro w hSw; (try dsimp only at hSw); go_simp; try (with_reducible rfl))); (try simp only [Act.put, List.getElem_toArray, List.getElem_cons_succ, List.getElem_cons_zero, List.setIfInBounds_toArray, List.set_cons_zero, List.set_cons_succ]))
                    (refine wpAnyH_take (i := 22) (v := ?_) rfl (by kernel_rfl) (by kernel_rfl) (by kernel_rfl) (fun _ _ _ h => h) (Or.inl ⟨by rfl, ?_⟩) hHeld ?_; rotate_left; (focus (intro w hSw; (try dsimp only at hSw); go_simp; try (with_reducible rfl))); (try simp only [Act.put, List.getElem_toArray, List.getElem_cons_succ, List.getElem_cons_zero, List.setIfInBounds_toArray, List.set_cons_zero, List.set_cons_succ]))
                    (refine wpAnyH_take (i := 23) (v := ?_) rfl (by kernel_rfl) (by kernel_rfl) (by kernel_rfl) (fun _ _ _ h => h) (Or.inl ⟨by rfl, ?_⟩) hHeld ?_; rotate_left; (focus (intro w hSw; (try dsimp only at hSw); go_simp; try (with_reducible rfl))); (try simp only [Act.put, List.getElem_toArray, List.getElem_cons_succ, List.getElem_cons_zero, List.setIfInBounds_toArray, List.set_cons_zero, List.set_cons_succ]))
                    (refine wpAnyH_take (i := 24) (v := _) rfl (by kernel_rfl) (by kernel_rfl) (by kernel_rfl) (fun _ _ _ h => h) (Or.inr ⟨by rfl, rfl⟩) hHeld ?_; (try simp only [Act.put, List.getElem_toArray, List.getElem_cons_succ, List.getElem_cons_zero, List.setIfInBounds_toArray, List.set_cons_zero, List.set_cons_succ]))
                    (refine wpAnyH_take (i := 25) (v := _) rfl (by kernel_rfl) (by kernel_rfl) (by kernel_rfl) (fun _ _ _ h => h) (Or.inr ⟨by rfl, rfl⟩) hHeld ?_; (try simp only [Act.put, List.getElem_toArray, List.getElem_cons_succ, List.getElem_cons_zero, List.setIfInBounds_toArray, List.set_cons_zero, List.set_cons_succ]))
                    (refine wpAnyH_take (i := 26) (v := ?_) rfl (by kernel_rfl) (by kernel_rfl) (by kernel_rfl) (fun _ _ _ h => h) (Or.inl ⟨by rfl, ?_⟩) hHeld ?_; rotate_left; (focus (intro w hSw; (try dsimp only at hSw); go_simp; try (with_reducible rfl))); (try simp only [Act.put, List.getElem_toArray, List.getElem_cons_succ, List.getElem_cons_zero, List.setIfInBounds_toArray, List.set_cons_zero, List.set_cons_succ]))
                    (refine wpAnyH_take (i := 27) (v := ?_) rfl (by kernel_rfl) (by kernel_rfl) (by kernel_rfl) (fun _ _ _ h => h) (Or.inl ⟨by rfl, ?_⟩) hHeld ?_; rotate_left; (focus (intro w hSw; (try dsimp only at hSw); go_simp; try (with_reducible rfl))); (try simp only [Act.put, List.getElem_toArray, List.getElem_cons_succ, List.getElem_cons_zero, List.setIfInBounds_toArray, List.set_cons_zero, List.set_cons_succ]))
                    refine wpAnyH_done (by kernel_rfl) ?_ _
                    have P6 := Lib.hid (qst_below P4.out hB6)
                    clear hHeld own5 rx hB5 H6 HS f1 f2 f3 f4 tl1

                    obtain ⟨hqT, hrT, hvT, hbT⟩ := P6.out
                    have hlT : (putL m q x).length ≤ 64 := by have := HPL.out; omega
                    have t0T : ((((putL m q x).length : Nat) : Int) != (((putL m q x).length : Nat) : Int)) = false := by simp
                    have HLT := Lib.hid hlT
                    have HLN := Lib.hid (qlen_list b m _ _ hqT)
                    have HAL := Lib.hid (qall_any b m _ _ hqT)
                    have HRT := Lib.hid hrT
                    have LBT := Lib.hid hbT.size
                    clear hqT hrT hvT hbT hlT
                    go_wp2_with fail
                    refine HLN.out.mono ?_
                    rintro e wL ⟨rfl, rfl⟩
                    go_wp2_with fail
                    refine HAL.out.mono ?_
                    rintro e wA ⟨vA, rfl, ownA, hbA⟩
                    have hsm := same11_any vA _ _ _ wA (ownI_read ownA) (readI_below HRT.out hbA) (by have := HLT.out; omega) (by have := HLT.out; omega)
                    rw [decide_eq_true rfl] at hsm
                    have HSM := Lib.hid hsm
                    have PA := Lib.hid (qst_below P6.out hbA)
                    clear hsm ownA
                    go_wp2_with fail
                    refine HSM.out.mono ?_
                    rintro e wS ⟨rfl, hbS⟩
                    have PS := Lib.hid (qst_below PA.out hbS)
                    go_wp2_with fail
                    exact ⟨⟨k + 1, _, by omega, by go_num, PS⟩, by simp only [intOf]; omega⟩
                · go_simp
                  refine hK.out _ _ (HS.out _ (by (repeat' (first | exact Below.refl _ _ | assumption | refine b_alloc ?_ _ | refine b_over ?_ _ | refine b_drew ?_ | refine b_call ?_ (by assumption))))) (fun hHeld => ?_)
                  clear hK K
                  (try simp only [Act.put, List.getElem_toArray, List.getElem_cons_succ, List.getElem_cons_zero, List.setIfInBounds_toArray, List.set_cons_zero, List.set_cons_succ])
                  refine wpAnyH_ready (rs := [8]) (by kernel_rfl) (by simp) (AllReadyH.cons rfl (fun K hK => ?_) AllReadyH.nil)
                  go_simp
                  refine hK.out _ _ (HS.out _ (by (repeat' (first | exact Below.refl _ _ | assumption | refine b_alloc ?_ _ | refine b_over ?_ _ | refine b_drew ?_ | refine b_call ?_ (by assumption))))) (fun hHeld => ?_)
                  clear hK K
                  (try simp only [Act.put, List.getElem_toArray, List.getElem_cons_succ, List.getElem_cons_zero, List.setIfInBounds_toArray, List.set_cons_zero, List.set_cons_succ])
                  have own0 : OwnI ((w4.alloc (.cells #[.int .i64 x] 3)).alloc (.cells #[] 3)).drew w4.heap.size (.slice (some ⟨w4.heap.size + 1, 0, none⟩) 0 0) [] := by
                    have := own_empty (w := w4.alloc (.cells #[.int .i64 x] 3)) (B := w4.heap.size) (by simp)
                    rw [World.size_alloc] at this
                    exact ownI_drew this
                  have hB0 : Below w4.heap.size w4 ((w4.alloc (.cells #[.int .i64 x] 3)).alloc (.cells #[] 3)).drew := b_drew (b_alloc (b_alloc (Below.refl _ _) _) _)
                  have rx0 : ReadI ((w4.alloc (.cells #[.int .i64 x] 3)).alloc (.cells #[] 3)).drew (.slice (some ⟨w4.heap.size, 0, none⟩) 1 1) [x] := readI_drew (readI_below (read_one w4 x) (b_alloc (Below.refl _ _) _))
                  refine wpAnyH_ready (rs := [10]) (by kernel_rfl) (by simp) (AllReadyH.cons rfl (fun K hK => ?_) AllReadyH.nil)
                  refine step_want (by kernel_rfl) ?_
                  refine wp_appendI _ _ (by rfl) w4.heap.size _ [] (by rfl) own0 _ q (by rfl) (readI_below hr4u hB0) (by simp; omega) hB0.size (fun v5 w5 own5 hg5 => ?_)
                  rw [List.nil_append] at own5
                  have hB5 : Below w4.heap.size w4 w5 := b_own hB0 own0 hg5
                  have rx : ReadI w5 (.slice (some ⟨w4.heap.size, 0, none⟩) 1 1) [x] := readI_kept rx0 (fun y hy hlt => hg5.block y hlt (fun e => by have e1 : some y = some w4.heap.size := hy.symm; have e2 : some y = some (w4.heap.size + 1) := e; rw [e1] at e2; injection e2; omega)) hg5.size
                  clear rx0
                  refine hK.out _ _ (HS.out _ hB5) (fun hHeld => ?_)
                  clear hK K
                  (try simp only [Act.put, List.getElem_toArray, List.getElem_cons_succ, List.getElem_cons_zero, List.setIfInBounds_toArray, List.set_cons_zero, List.set_cons_succ])
                  refine wpAnyH_ready (rs := [14]) (by kernel_rfl) (by simp) (AllReadyH.cons rfl (fun K hK => ?_) AllReadyH.nil)
                  refine step_want (by kernel_rfl) ?_
                  refine wp_appendI _ _ (by rfl) w4.heap.size _ q (by rfl) own5 _ [x] (by rfl) rx (by simp; omega) hB5.size (fun v6 w6 own6 hg6 => ?_)
                  have hB6 : Below w4.heap.size w4 w6 := b_own hB5 own5 hg6
                  obtain ⟨g6, cap6, hv6, f1, f2, f3, f4, f5, f6⟩ := ownI_form own6 (by simp)
                  rw [hv6]
                  clear own6 hv6 hg6
                  refine hK.out _ _ (HS.out _ hB6) (fun hHeld => ?_)
                  clear hK K
                  (try simp only [Act.put, List.getElem_toArray, List.getElem_cons_succ, List.getElem_cons_zero, List.setIfInBounds_toArray, List.set_cons_zero, List.set_cons_succ])
                  have H6 : Hid (∀ w', Below w6.heap.size w6 w' → w'.cell? ⟨g6, 0, none⟩ = some (.int .i64 (putO m q x))) := Lib.hid (fun w' hb => by rw [HO.out]; exact (hb.cell (p := ⟨g6, 0, none⟩) f2).trans (f5 0 (by simp)))
                  clear f5 f6
                  refine wpAnyH_switch (S' := (fun w' => w'.cell? ⟨g, 1, none⟩ = some (.int .i64 x) ∧ w'.cell? ⟨g6, 0, none⟩ = some (.int .i64 (putO m q x)))) (fun _ h => h.1) ⟨HS.out _ (by first | exact hB6 | exact b_drew hB6), H6.out _ (by (repeat' (first | exact Below.refl _ _ | assumption | refine b_alloc ?_ _ | refine b_over ?_ _ | refine b_drew ?_ | refine b_call ?_ (by assumption))))⟩ (fun hHeld => ?_)
                  have tl1 : (0 : Int) < ((q ++ [x]).length : Int) := by simp
                  (refine wpAnyH_take (i := 15) (v := ?_) rfl (by kernel_rfl) (by kernel_rfl) (by kernel_rfl) (fun _ _ _ h => h) (Or.inl ⟨by rfl, ?_⟩) hHeld ?_; rotate_left; (focus (intro w hSw; (try dsimp only at hSw); go_simp; try (with_reducible rfl))); (try simp only [Act.put, List.getElem_toArray, List.getElem_cons_succ, List.getElem_cons_zero, List.setIfInBounds_toArray, List.set_cons_zero, List.set_cons_succ]))
                  (refine wpAnyH_take (i := 16) (v := ?_) rfl (by kernel_rfl) (by kernel_rfl) (by kernel_rfl) (fun _ _ _ h => h) (Or.inl ⟨by rfl, ?_⟩) hHeld ?_; rotate_left; (focus (intro w hSw; (try dsimp only at hSw); go_simp; try (with_reducible rfl))); (try simp only [Act.put, List.getElem_toArray, List.getElem_cons_succ, List.getElem_cons_zero, List.setIfInBounds_toArray, List.set_cons_zero, List.set_cons_succ]))
                  (refine wpAnyH_take (i := 17) (v := ?_) rfl (by kernel_rfl) (by kernel_rfl) (by kernel_rfl) (fun _ _ _ h => h) (Or.inl ⟨by rfl, ?_⟩) hHeld ?_; rotate_left; (focus (intro w hSw; (try dsimp only at hSw); go_simp; try (with_reducible rfl))); (try simp only [Act.put, List.getElem_toArray, List.getElem_cons_succ, List.getElem_cons_zero, List.setIfInBounds_toArray, List.set_cons_zero, List.set_cons_succ]))
                  (refine wpAnyH_take (i := 18) (v := ?_) rfl (by kernel_rfl) (by kernel_rfl) (by kernel_rfl) (fun _ _ _ h => h) (Or.inl ⟨by rfl, ?_⟩) hHeld ?_; rotate_left; (focus (intro w hSw; (try dsimp only at hSw); go_simp; try (with_reducible rfl))); (try simp only [Act.put, List.getElem_toArray, List.getElem_cons_succ, List.getElem_cons_zero, List.setIfInBounds_toArray, List.set_cons_zero, List.set_cons_succ]))
                  (refine wpAnyH_take (i := 19) (v := ?_) rfl (by kernel_rfl) (by kernel_rfl) (by kernel_rfl) (fun _ _ _ h => h) (Or.inl ⟨by rfl, ?_⟩) hHeld ?_; rotate_left; (focus (intro w hSw; (try dsimp only at hSw); go_simp; try (with_reducible rfl))); (try simp only [Act.put, List.getElem_toArray, List.getElem_cons_succ, List.getElem_cons_zero, List.setIfInBounds_toArray, List.set_cons_zero, List.set_cons_succ]))
                  (refine wpAnyH_take (i := 20) (v := ?_) rfl (by kernel_rfl) (by kernel_rfl) (by kernel_rfl) (fun _ _ _ h => h) (Or.inl ⟨by rfl, ?_⟩) hHeld ?_; rotate_left; (focus (intro w hSw; (try dsimp only at hSw); go_simp; try (with_reducible rfl))); (try simp only [Act.put, List.getElem_toArray, List.getElem_cons_succ, List.getElem_cons_zero, List.setIfInBounds_toArray, List.set_cons_zero, List.set_cons_succ]))
                  (refine wpAnyH_take (i := 21) (v := ?_) rfl (by kernel_rfl) (by kernel_rfl) (by kernel_rfl) (fun _ _ _ h => h) (Or.inl ⟨by rfl, ?_⟩) hHeld ?_; rotate_left; (focus (intro w hSw; (try dsimp only at hSw); go_simp; try (with_reducible rfl))); (try simp only [Act.put, List.getElem_toArray, List.getElem_cons_succ, List.getElem_cons_zero, List.setIfInBounds_toArray, List.set_cons_zero, List.set_cons_succ]))
                  (refine wpAnyH_take (i := 22) (v := ?_) rfl (by kernel_rfl) (by kernel_rfl) (by kernel_rfl) (fun _ _ _ h => h) (Or.inl ⟨by rfl, ?_⟩) hHeld ?_; rotate_left; (focus (intro w hSw; (try dsimp only at hSw); go_simp; try (with_reducible rfl))); (try simp only [Act.put, List.getElem_toArray, List.getElem_cons_succ, List.getElem_cons_zero, List.setIfInBounds_toArray, List.set_cons_zero, List.set_cons_succ]))
                  (refine wpAnyH_take (i := 23) (v := ?_) rfl (by kernel_rfl) (by kernel_rfl) (by kernel_rfl) (fun _ _ _ h => h) (Or.inl ⟨by rfl, ?_⟩) hHeld ?_; rotate_left; (focus (intro w hSw; (try dsimp only at hSw); go_simp; try (with_reducible rfl))); (try simp only [Act.put, List.getElem_toArray, List.getElem_cons_succ, List.getElem_cons_zero, List.setIfInBounds_toArray, List.set_cons_zero, List.set_cons_succ]))
                  (refine wpAnyH_take (i := 24) (v := _) rfl (by kernel_rfl) (by kernel_rfl) (by kernel_rfl) (fun _ _ _ h => h) (Or.inr ⟨by rfl, rfl⟩) hHeld ?_; (try simp only [Act.put, List.getElem_toArray, List.getElem_cons_succ, List.getElem_cons_zero, List.setIfInBounds_toArray, List.set_cons_zero, List.set_cons_succ]))
                  (refine wpAnyH_take (i := 25) (v := _) rfl (by kernel_rfl) (by kernel_rfl) (by kernel_rfl) (fun _ _ _ h => h) (Or.inr ⟨by rfl, rfl⟩) hHeld ?_; (try simp only [Act.put, List.getElem_toArray, List.getElem_cons_succ, List.getElem_cons_zero, List.setIfInBounds_toArray, List.set_cons_zero, List.set_cons_succ]))
                  (refine wpAnyH_take (i := 26) (v := ?_) rfl (by kernel_rfl) (by kernel_rfl) (by kernel_rfl) (fun _ _ _ h => h) (Or.inl ⟨by rfl, ?_⟩) hHeld ?_; rotate_left; (focus (intro w hSw; (try dsimp only at hSw); go_simp; try (with_reducible rfl))); (try simp only [Act.put, List.getElem_toArray, List.getElem_cons_succ, List.getElem_cons_zero, List.setIfInBounds_toArray, List.set_cons_zero, List.set_cons_succ]))
                  (refine wpAnyH_take (i := 27) (v := ?_) rfl (by kernel_rfl) (by kernel_rfl) (by kernel_rfl) (fun _ _ _ h => h) (Or.inl ⟨by rfl, ?_⟩) hHeld ?_; rotate_left; (focus (intro w hSw; (try dsimp only at hSw); go_simp; try (with_reducible rfl))); (try simp only [Act.put, List.getElem_toArray, List.getElem_cons_succ, List.getElem_cons_zero, List.setIfInBounds_toArray, List.set_cons_zero, List.set_cons_succ]))
                  refine wpAnyH_done (by kernel_rfl) ?_ _
                  have P6 := Lib.hid (qst_below P4.out hB6)
                  clear hHeld own5 rx hB5 H6 HS f1 f2 f3 f4 tl1

                  obtain ⟨hqT, hrT, hvT, hbT⟩ := P6.out
                  have hlT : (putL m q x).length ≤ 64 := by have := HPL.out; omega
                  have t0T : ((((putL m q x).length : Nat) : Int) != (((putL m q x).length : Nat) : Int)) = false := by simp
                  have HLT := Lib.hid hlT
                  have HLN := Lib.hid (qlen_list b m _ _ hqT)
                  have HAL := Lib.hid (qall_any b m _ _ hqT)
                  have HRT := Lib.hid hrT
                  have LBT := Lib.hid hbT.size
                  clear hqT hrT hvT hbT hlT
                  go_wp2_with fail
                  refine HLN.out.mono ?_
                  rintro e wL ⟨rfl, rfl⟩
                  go_wp2_with fail
                  refine HAL.out.mono ?_
                  rintro e wA ⟨vA, rfl, ownA, hbA⟩
                  have hsm := same11_any vA _ _ _ wA (ownI_read ownA) (readI_below HRT.out hbA) (by have := HLT.out; omega) (by have := HLT.out; omega)
                  rw [decide_eq_true rfl] at hsm
                  have HSM := Lib.hid hsm
                  have PA := Lib.hid (qst_below P6.out hbA)
                  clear hsm ownA
                  go_wp2_with fail
                  refine HSM.out.mono ?_
                  rintro e wS ⟨rfl, hbS⟩
                  have PS := Lib.hid (qst_below PA.out hbS)
                  go_wp2_with fail
                  exact ⟨⟨k + 1, _, by omega, by go_num, PS⟩, by simp only [intOf]; omega⟩
        · by_cases h3 : ka = 3
          · subst h3
            clear h012
            as_aux_lemma =>
              obtain ⟨g, hg⟩ : ∃ g, g = wr.heap.size := ⟨_, rfl⟩
              obtain ⟨w2, hw2⟩ : ∃ w2, w2 = wr.alloc (.cells #[.int .i64 3, .int .i64 x] 53) := ⟨_, rfl⟩
              go_upto_region 17 with fail
              rw [← hw2] at HQ1
              rw [← hw2, ← hg] at HBX
              rw [← hw2, ← hg]
              have hbg : b ≠ g := by omega
              have hsx := (blk2 HBX.out)
              obtain ⟨s0, s1, sf⟩ := hsx
              have hss := HBX.out.1
              obtain ⟨hq1, hr1, hv1, hb1⟩ := HQ1.out
              clear hw2 hg d0 d1 hB

              go_wp2_with fail
              refine (qtake_any b m q _ hq1).mono ?_
              rintro e w3 ⟨rfl, hq3, hg3⟩
              have hr3 : ReadI w3 u6 q := readI_kept hr1 (fun y hy hlt => hg3.block y hlt (fun e => hv y hy (by cases e; rfl))) hg3.size
              have hb3 := b_gb hb1 hg3 hbw
              clear s0 s1 sf hr1 hq1
              cases q with
              | nil =>
                have P3 : Hid (QSt w w3 b m [] u6) := ⟨hq3, hr3, hv, hb3⟩
                obtain ⟨a4, cap4, e4⟩ := readI_len hr3
                rw [show ([] : List Int).length = 0 from rfl] at e4
                subst e4
                clear hq3 hr3
                simp only [List.length_nil, List.headD_nil, List.isEmpty_nil, Bool.not_true]
                obtain ⟨hqT, hrT, hvT, hbT⟩ := P3.out
                have hlT : (([] : List Int)).length ≤ 64 := by simp
                have t0T : ((((([] : List Int)).length : Nat) : Int) != (((([] : List Int)).length : Nat) : Int)) = false := by simp
                have HLT := Lib.hid hlT
                have HLN := Lib.hid (qlen_list b m _ _ hqT)
                have HAL := Lib.hid (qall_any b m _ _ hqT)
                have HRT := Lib.hid hrT
                have LBT := Lib.hid hbT.size
                clear hqT hrT hvT hbT hlT
                go_wp2_with fail
                refine HLN.out.mono ?_
                rintro e wL ⟨rfl, rfl⟩
                go_wp2_with fail
                refine HAL.out.mono ?_
                rintro e wA ⟨vA, rfl, ownA, hbA⟩
                have hsm := same11_any vA _ _ _ wA (ownI_read ownA) (readI_below HRT.out hbA) (by have := HLT.out; omega) (by have := HLT.out; omega)
                rw [decide_eq_true rfl] at hsm
                have HSM := Lib.hid hsm
                have PA := Lib.hid (qst_below P3.out hbA)
                clear hsm ownA
                go_wp2_with fail
                refine HSM.out.mono ?_
                rintro e wS ⟨rfl, hbS⟩
                have PS := Lib.hid (qst_below PA.out hbS)
                go_wp2_with fail
                exact ⟨⟨k + 1, _, by omega, by go_num, PS⟩, by simp only [intOf]; omega⟩
              | cons y t =>
                obtain ⟨b4, o4, cap4, rfl, r1, r2, r3, r4⟩ := readI_pos hr3 (by simp)
                have hc0 := r4 0 (by simp)
                rw [Nat.add_zero] at hc0
                have hc0 : w3.cell? ⟨b4, o4, none⟩ = some (.int .i64 y) := hc0
                have hrt := readI_tl (t := t) hr3
                simp only [List.length_cons] at r1 hql hrt ⊢
                have lt0 : (0 : Int) < ((t.length + 1 : Nat) : Int) := by omega
                have lt1 : (1 : Int) ≤ ((t.length + 1 : Nat) : Int) := by omega
                have hcp : (1 : Int) ≤ (cap4 : Int) := by omega
                rcases (show cap4 = 1 ∨ ¬ cap4 = 1 by omega) with rfl | hcap
                · rw [if_pos rfl, Nat.sub_self] at hrt
                  obtain rfl : t = [] := List.eq_nil_of_length_eq_zero (by omega)
                  rw [show ([] : List Int).length = 0 from rfl] at hrt
                  have P3 : Hid (QSt w w3 b m [] (.slice (some ⟨b4, o4, none⟩) 0 0)) := ⟨hq3, hrt, fun z hz => hv z hz, hb3⟩
                  clear hq3 hr3 hrt r4 r1 lt1 lt0 hcp hql
                  simp only [List.headD_cons, List.isEmpty_cons, Bool.not_false, List.length_nil, Nat.zero_add]
                  go_upto_region 31 with fail

                  obtain ⟨hqT, hrT, hvT, hbT⟩ := P3.out
                  have hlT : (([] : List Int)).length ≤ 64 := by simp
                  have t0T : ((((([] : List Int)).length : Nat) : Int) != (((([] : List Int)).length : Nat) : Int)) = false := by simp
                  have HLT := Lib.hid hlT
                  have HLN := Lib.hid (qlen_list b m _ _ hqT)
                  have HAL := Lib.hid (qall_any b m _ _ hqT)
                  have HRT := Lib.hid hrT
                  have LBT := Lib.hid hbT.size
                  clear hqT hrT hvT hbT hlT
                  go_wp2_with fail
                  refine HLN.out.mono ?_
                  rintro e wL ⟨rfl, rfl⟩
                  go_wp2_with fail
                  refine HAL.out.mono ?_
                  rintro e wA ⟨vA, rfl, ownA, hbA⟩
                  have hsm := same11_any vA _ _ _ wA (ownI_read ownA) (readI_below HRT.out hbA) (by have := HLT.out; omega) (by have := HLT.out; omega)
                  rw [decide_eq_true rfl] at hsm
                  have HSM := Lib.hid hsm
                  have PA := Lib.hid (qst_below P3.out hbA)
                  clear hsm ownA
                  go_wp2_with fail
                  refine HSM.out.mono ?_
                  rintro e wS ⟨rfl, hbS⟩
                  have PS := Lib.hid (qst_below PA.out hbS)
                  go_wp2_with fail
                  exact ⟨⟨k + 1, _, by omega, by go_num, PS⟩, by simp only [intOf]; omega⟩
                · rw [if_neg hcap] at hrt
                  have P3 : Hid (QSt w w3 b m t (.slice (some ⟨b4, o4 + 1, none⟩) t.length (cap4 - 1))) := ⟨hq3, hrt, fun z hz => hv z hz, hb3⟩
                  clear hq3 hr3 hrt r4
                  simp only [List.headD_cons, List.isEmpty_cons, Bool.not_false]
                  go_upto_region 31 with fail

                  obtain ⟨hqT, hrT, hvT, hbT⟩ := P3.out
                  have hlT : (t).length ≤ 64 := by omega
                  have t0T : ((((t).length : Nat) : Int) != (((t).length : Nat) : Int)) = false := by simp
                  have HLT := Lib.hid hlT
                  have HLN := Lib.hid (qlen_list b m _ _ hqT)
                  have HAL := Lib.hid (qall_any b m _ _ hqT)
                  have HRT := Lib.hid hrT
                  have LBT := Lib.hid hbT.size
                  clear hqT hrT hvT hbT hlT
                  go_wp2_with fail
                  refine HLN.out.mono ?_
                  rintro e wL ⟨rfl, rfl⟩
                  go_wp2_with fail
                  refine HAL.out.mono ?_
                  rintro e wA ⟨vA, rfl, ownA, hbA⟩
                  have hsm := same11_any vA _ _ _ wA (ownI_read ownA) (readI_below HRT.out hbA) (by have := HLT.out; omega) (by have := HLT.out; omega)
                  rw [decide_eq_true rfl] at hsm
                  have HSM := Lib.hid hsm
                  have PA := Lib.hid (qst_below P3.out hbA)
                  clear hsm ownA
                  go_wp2_with fail
                  refine HSM.out.mono ?_
                  rintro e wS ⟨rfl, hbS⟩
                  have PS := Lib.hid (qst_below PA.out hbS)
                  go_wp2_with fail
                  exact ⟨⟨k + 1, _, by omega, by go_num, PS⟩, by simp only [intOf]; omega⟩
          · by_cases h4 : ka = 4
            · subst h4
              clear h012 h3
              as_aux_lemma =>
                obtain ⟨g, hg⟩ : ∃ g, g = wr.heap.size := ⟨_, rfl⟩
                obtain ⟨w2, hw2⟩ : ∃ w2, w2 = wr.alloc (.cells #[.int .i64 4, .int .i64 x] 53) := ⟨_, rfl⟩
                go_upto_region 23 with fail
                rw [← hw2] at HQ1
                rw [← hw2, ← hg] at HBX
                rw [← hw2, ← hg]
                have hbg : b ≠ g := by omega
                have hsx := (blk2 HBX.out)
                obtain ⟨s0, s1, sf⟩ := hsx
                have hss := HBX.out.1
                obtain ⟨hq1, hr1, hv1, hb1⟩ := HQ1.out
                clear hw2 hg d0 d1 hB

                obtain ⟨a4, cap4, rfl, r1, r2, r3, r4⟩ := hr1
                have R4 := Lib.hid r4
                have HHAS := Lib.hid (qhas_any b m q x w2 hq1)
                have P2 := HQ1
                have hql2 : (q.length : Int) ≤ 64 := by omega
                clear r4 r3 hq1
                go_wp2_with fail
                go_loop [15, 117] (fun t i => ∃ j : Nat, j ≤ q.length ∧ i = .int .i64 j ∧ t = .bool (decide (x ∈ q.take j))) (fun _ i => q.length - (intOf i).toNat)
                case atStart => exact ⟨0, by omega, rfl, by simp⟩
                case round =>
                  obtain ⟨j, hj, rfl, rfl⟩ := hrel
                  by_cases hjl : j < q.length
                  · obtain ⟨b4, o4, rfl, r5, r6⟩ := R4.out (by omega)
                    have hcj := r6 j hjl
                    have HMT := Lib.hid (mem_take_succ q x j hjl)
                    have j0 : (0 : Int) ≤ j := by omega
                    have j1 : (j : Int) < q.length := by omega
                    generalize q.getD j 0 = y at *
                    generalize decide (x ∈ q.take j) = t at *
                    clear r6
                    cases t with
                    | true =>
                      go_wp2_with fail
                      go_round
                      case rel => exact ⟨j + 1, by omega, by go_num, by rw [HMT.out]; rfl⟩
                      case measure => simp only [intOf]; omega
                    | false =>
                      go_wp2_with fail
                      go_round
                      case rel => exact ⟨j + 1, by omega, by go_num, by rw [HMT.out]; rfl⟩
                      case measure => simp only [intOf]; omega
                  · obtain rfl : j = q.length := by omega
                    have e1 : q.take q.length = q := List.take_length
                    have t1 : (decide (x ∈ q) != decide (x ∈ q)) = false := by simp
                    rw [e1]
                    clear e1
                    generalize decide (x ∈ q) = tt at *
                    go_wp2_with fail
                    refine HHAS.out.mono ?_
                    rintro e w3 ⟨rfl, hb3⟩
                    have P3 := Lib.hid (qst_below P2.out hb3)
                    obtain ⟨hqT, hrT, hvT, hbT⟩ := P3.out
                    have hlT : (q).length ≤ 64 := by omega
                    have t0T : ((((q).length : Nat) : Int) != (((q).length : Nat) : Int)) = false := by simp
                    have HLT := Lib.hid hlT
                    have HLN := Lib.hid (qlen_list b m _ _ hqT)
                    have HAL := Lib.hid (qall_any b m _ _ hqT)
                    have HRT := Lib.hid hrT
                    have LBT := Lib.hid hbT.size
                    clear hqT hrT hvT hbT hlT
                    go_wp2_with fail
                    refine HLN.out.mono ?_
                    rintro e wL ⟨rfl, rfl⟩
                    go_wp2_with fail
                    refine HAL.out.mono ?_
                    rintro e wA ⟨vA, rfl, ownA, hbA⟩
                    have hsm := same11_any vA _ _ _ wA (ownI_read ownA) (readI_below HRT.out hbA) (by have := HLT.out; omega) (by have := HLT.out; omega)
                    rw [decide_eq_true rfl] at hsm
                    have HSM := Lib.hid hsm
                    have PA := Lib.hid (qst_below P3.out hbA)
                    clear hsm ownA
                    go_wp2_with fail
                    refine HSM.out.mono ?_
                    rintro e wS ⟨rfl, hbS⟩
                    have PS := Lib.hid (qst_below PA.out hbS)
                    go_wp2_with fail
                    exact ⟨⟨k + 1, _, by omega, by go_num, PS⟩, by simp only [intOf]; omega⟩
            · have t0 : (ka == 0) = false := by rw [beq_eq_false_iff_ne]; omega
              have t1 : (ka == 1) = false := by rw [beq_eq_false_iff_ne]; omega
              have t2 : (ka == 2) = false := by rw [beq_eq_false_iff_ne]; omega
              have t3 : (ka == 3) = false := by rw [beq_eq_false_iff_ne]; omega
              have t4 : (ka == 4) = false := by rw [beq_eq_false_iff_ne]; omega
              clear h012 h3 h4
              as_aux_lemma =>
                obtain ⟨g, hg⟩ : ∃ g, g = wr.heap.size := ⟨_, rfl⟩
                obtain ⟨w2, hw2⟩ : ∃ w2, w2 = wr.alloc (.cells #[.int .i64 ka, .int .i64 x] 53) := ⟨_, rfl⟩
                go_upto_region 31 with fail
                rw [← hw2] at HQ1
                rw [← hw2, ← hg] at HBX
                rw [← hw2, ← hg]
                have hbg : b ≠ g := by omega
                have hsx := (blk2 HBX.out)
                obtain ⟨s0, s1, sf⟩ := hsx
                have hss := HBX.out.1
                obtain ⟨hq1, hr1, hv1, hb1⟩ := HQ1.out
                clear hw2 hg d0 d1 hB

                have P3 := HQ1
                obtain ⟨a4, cap4, rfl⟩ := readI_len hr1
                clear s0 s1 sf hr1 hq1

                obtain ⟨hqT, hrT, hvT, hbT⟩ := P3.out
                have hlT : (q).length ≤ 64 := by omega
                have t0T : ((((q).length : Nat) : Int) != (((q).length : Nat) : Int)) = false := by simp
                have HLT := Lib.hid hlT
                have HLN := Lib.hid (qlen_list b m _ _ hqT)
                have HAL := Lib.hid (qall_any b m _ _ hqT)
                have HRT := Lib.hid hrT
                have LBT := Lib.hid hbT.size
                clear hqT hrT hvT hbT hlT
                go_wp2_with fail
                refine HLN.out.mono ?_
                rintro e wL ⟨rfl, rfl⟩
                go_wp2_with fail
                refine HAL.out.mono ?_
                rintro e wA ⟨vA, rfl, ownA, hbA⟩
                have hsm := same11_any vA _ _ _ wA (ownI_read ownA) (readI_below HRT.out hbA) (by have := HLT.out; omega) (by have := HLT.out; omega)
                rw [decide_eq_true rfl] at hsm
                have HSM := Lib.hid hsm
                have PA := Lib.hid (qst_below P3.out hbA)
                clear hsm ownA
                go_wp2_with fail
                refine HSM.out.mono ?_
                rintro e wS ⟨rfl, hbS⟩
                have PS := Lib.hid (qst_below PA.out hbS)
                go_wp2_with fail
                exact ⟨⟨k + 1, _, by omega, by go_num, PS⟩, by simp only [intOf]; omega⟩
      · have kd : (150 : Int) ≤ k := by omega
        have hb5 := b_alloc hb (.cells #[.int .i64 ka, .int .i64 x] 53)
        go_wp2_with fail
        refine (awake11_any _).mono ?_
        rintro e w4 ⟨rfl, hb4⟩
        go_wp2_with fail
        go_ret
        exact ⟨rfl, b_call hb5 hb4⟩
    · clear hp hq hr
      go_wp2_with fail
      refine (awake11_any _).mono ?_
      rintro e w4 ⟨rfl, hb4⟩
      go_wp2_with fail
      go_ret
      exact ⟨rfl, b_call hb hb4⟩
end Go.Proofs.Ytakcodbbecdfkaa
