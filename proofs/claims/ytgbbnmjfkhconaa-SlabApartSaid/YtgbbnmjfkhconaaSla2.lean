/- Layer 7: the contracts of follow, Count, gone, of a slab that is whole. Conditions: those stated. -/
import Derived.Test.YtgbbnmjfkhconaaSlaL
namespace Go.Proofs.Ytgbbnmjfkhconaa
open Go.RowKit
set_option linter.unusedVariables false
set_option linter.unusedSimpArgs false
attribute [local go_sem] over_cell over_frozen
variable {w w' : World} {b : SlB} {m : SlM} {P Z N : Nat} {fl : List Nat}
theorem chain_at {L : List Int} {key : Int} {k : Nat} {rest : List Nat} : ∀ {pre : List Nat}, ChainL L key P Z (pre ++ k :: rest) → getW L (bsN P Z k) = putI key ((bsN P Z k : Nat) : Int) (hdI P Z rest)
  | [], h => h.1
  | _ :: pre, h => chain_at (pre := pre) h.2
theorem good_bs (h : SGood m P Z N fl) {k : Nat} (hk : k < N) : bsN P Z k < 65536 := by
  have := good_in h hk
  have := cls_bd h.zn
  have := h.mx
  omega
theorem good_slot (h : SGood m P Z N fl) {k : Nat} (hk : k < N) : slotpI ((bsN P Z k : Nat) : Int) m.cl = m.pg ∧ slotkI ((bsN P Z k : Nat) : Int) m.cl = k := by
  obtain ⟨e1, _, _, e4⟩ := cls_nums h.zn
  have hb := good_bs h hk
  obtain ⟨s1, s2⟩ := cls_slot (P := P) h.zn hk
  have hi : inI ((bsN P Z k : Nat) : Int) m.cl = true := by
    unfold inI
    rw [e4, decide_eq_true (by omega), decide_eq_true (by omega)]; rfl
  unfold slotpI slotkI
  rw [if_pos hi, if_pos hi, e1, h.pg]
  have e : bsN P Z k = 256 * P + Z * k := rfl
  rw [e]
  constructor
  · rw [show (256 : Int) = ((256 : Nat) : Int) from rfl, ← Int.natCast_ediv, s1]
  · rw [show (256 : Int) = ((256 : Nat) : Int) from rfl, ← Int.natCast_emod, ← Int.natCast_ediv, s2]
theorem good_mem (h : SGood m P Z N fl) {k : Nat} (hk : k ∈ fl) : k < N := ((h.fr k).1 hk).1
theorem hd_bd (h : SGood m P Z N fl) {pre rest : List Nat} (e : fl = pre ++ rest) : -1 ≤ hdI P Z rest ∧ hdI P Z rest ≤ 65536 :=
  hdI_bd P Z h.pm rest (fun k hk => cls_in h.zn (good_mem h (by rw [e]; exact List.mem_append_right _ hk)))
set_option maxHeartbeats 2000000 in
theorem sfollow_any (h : SlAt w b m) (g : SGood m P Z N fl) {k : Nat} {pre rest : List Nat} (hf : fl = pre ++ k :: rest) : Calls Try.prog 87 #[sp b.s, .int .i64 (bsN P Z k : Nat)] w fun e w' => e = .returned (.tuple #[.int .i64 (hdI P Z rest), .bool true]) ∧ Below w.heap.size w w' := by
  have hk : k < N := good_mem g (by rw [hf]; simp)
  have hkb := good_bs g hk
  obtain ⟨d1, d2⟩ := hd_bd g (pre := pre ++ [k]) (rest := rest) (by rw [hf]; simp)
  have hw := chain_at (L := m.L) (key := m.key) (P := P) (Z := Z) (k := k) (rest := rest) (pre := pre) (by rw [← hf]; exact g.ch)
  obtain ⟨gp1, gp2⟩ := get_put m.key ((bsN P Z k : Nat) : Int) (hdI P Z rest) (by omega) d1 (by omega)
  obtain ⟨pb1, pb2⟩ := putI_bd m.key ((bsN P Z k : Nat) : Int) (hdI P Z rest)
  have HA : Hid (∀ w', Below w.heap.size w w' → Calls Try.prog 33 #[tp b.ab, .int .i64 (bsN P Z k : Nat)] w' fun e w'' => e = .returned (.tuple #[.int .u64 (putI m.key ((bsN P Z k : Nat) : Int) (hdI P Z rest)), .int .i64 0]) ∧ w' = w'') := Lib.hid (fun w' hb => by
    have z := aword_any (are_below h.ar hb) ((bsN P Z k : Nat) : Int)
    rw [(good_word g hk).1, if_pos rfl, Int.toNat_natCast, hw] at z
    exact z)
  have HG : Hid (∀ w', Calls Try.prog 108 #[.agg #[.int .u64 m.key], .int .i64 (bsN P Z k : Nat), .int .u64 (putI m.key ((bsN P Z k : Nat) : Int) (hdI P Z rest))] w' fun e w'' => e = .returned (.tuple #[.int .i64 (hdI P Z rest), .bool true]) ∧ Below w'.heap.size w' w'') := Lib.hid (fun w' => by
    have z := get_any m.key ((bsN P Z k : Nat) : Int) (putI m.key ((bsN P Z k : Nat) : Int) (hdI P Z rest)) h.k0 h.k1 (by omega) (by omega) pb1 pb2 w'
    rw [getI_yes _ _ _ gp1, gp1, gp2] at z
    exact z)
  have HC : Hid (∀ w', Below w.heap.size w w' → ((w'.cell? ⟨b.s, 0, none⟩ = some (tp b.ab) ∧ w'.cell? ⟨b.s, 1, none⟩ = some (.int .u64 m.key)) ∧ (w'.cell? ⟨b.s, 2, none⟩ = some (.int .i64 m.pg) ∧ w'.cell? ⟨b.s, 3, none⟩ = some (.int .i64 m.cl))) ∧ b.s < w'.heap.size) := Lib.hid (fun w' hb => ⟨(sl_cells (sl_below h hb)).1, (sl_below h hb).hd.1⟩)
  generalize putI m.key ((bsN P Z k : Nat) : Int) (hdI P Z rest) = pv at *
  cases rest with
  | nil =>
    have e9 : hdI P Z [] = -1 := rfl
    rw [e9] at HG ⊢
    obtain ⟨⟨⟨c0, c1⟩, c2, c3⟩, cz⟩ := HC.out w (Below.refl _ _)
    generalize bsN P Z k = a at *
    unfold sp tp at *
    clear h g hw gp1 gp2 pb1 pb2 d1 d2 e9 hf
    go_enter Try.func87, Try.ntmps87
    go_wp2_with fail
    refine (HA.out _ (Below.refl _ _)).mono ?_
    rintro e w1 ⟨rfl, rfl⟩
    go_wp2_with fail
    refine (HG.out _).mono ?_
    rintro e w2 ⟨rfl, hb2⟩
    go_wp2_with fail
    exact bodyPost_ret (v := .tuple #[.int .i64 (-1), .bool true]) (by simp [results, Try.results87, go_sem]) rfl ⟨rfl, hb2⟩
  | cons j rs =>
    have hj : j < N := good_mem g (by rw [hf]; simp)
    have hjk : j ≠ k := fun e => by
      have z := g.nd
      rw [hf, e] at z
      have z2 := (List.nodup_append.1 z).2.1
      exact (List.nodup_cons.1 z2).1 (List.mem_cons_self ..)
    have hne : bsN P Z j ≠ bsN P Z k := fun e => by
      have q := cls_apart g.zn hjk
      have z := cls_bd g.zn
      unfold bsN at e
      omega
    have hjb := good_bs g hj
    have HSL : Hid (∀ w', Calls Try.prog 88 #[.int .i64 (bsN P Z j : Nat), .int .i64 m.cl] w' fun e w'' => e = .returned (.tuple #[.int .i64 m.pg, .int .i64 (j : Nat)]) ∧ Below w'.heap.size w' w'') := Lib.hid (fun w' => by
      have z := slot_any ((bsN P Z j : Nat) : Int) m.cl w'
      rw [(good_slot g hj).1, (good_slot g hj).2] at z
      exact z)
    have HBS := Lib.hid (fun w' (hb : Below w.heap.size w w') => by
      have z := sbase_any (sl_below h hb) (j : Int)
      rw [good_base g hj] at z
      exact z)
    have HST := Lib.hid (fun w' (hb : Below w.heap.size w w') => by
      have z := sstate_any (sl_below h hb) (j : Int)
      rw [(good_free g).1 (by rw [hf]; simp : j ∈ fl) |>.2] at z
      exact z)
    have e9 : hdI P Z (j :: rs) = ((bsN P Z j : Nat) : Int) := rfl
    rw [e9] at HG ⊢
    obtain ⟨⟨⟨c0, c1⟩, c2, c3⟩, cz⟩ := HC.out w (Below.refl _ _)
    generalize bsN P Z k = a at *
    generalize bsN P Z j = c at *
    have hn1 : ((c : Int) == -1) = false := beq_false_of_ne (by omega)
    have hn2 : ((c : Int) != a) = true := by simp; omega
    unfold sp tp at *
    clear h g hw gp1 gp2 pb1 pb2 d1 d2 e9 hf hjk hne
    go_enter Try.func87, Try.ntmps87
    go_wp2_with fail
    refine (HA.out _ (Below.refl _ _)).mono ?_
    rintro e w1 ⟨rfl, rfl⟩
    go_wp2_with fail
    refine (HG.out _).mono ?_
    rintro e w2 ⟨rfl, hb2⟩
    have HB2 := Lib.hid hb2
    clear hb2 c0 c1 c2 c3 cz
    obtain ⟨⟨⟨c0, c1⟩, c2, c3⟩, cz⟩ := HC.out w2 HB2.out
    go_wp2_with fail
    refine (HSL.out _).mono ?_
    rintro e w3 ⟨rfl, hb3⟩
    have HB3 := Lib.hid (b_call HB2.out hb3)
    clear hb3 c0 c1 c2 c3 cz
    obtain ⟨⟨⟨c0, c1⟩, c2, c3⟩, cz⟩ := HC.out w3 HB3.out
    go_wp2_with fail
    refine (HBS.out _ HB3.out).mono ?_
    rintro e w4 ⟨rfl, hb4⟩
    have HB4 := Lib.hid (b_call HB3.out hb4)
    clear hb4
    go_wp2_with fail
    refine (HST.out _ HB4.out).mono ?_
    rintro e w5 ⟨rfl, rfl⟩
    go_wp2_with fail
    exact bodyPost_ret (v := .tuple #[.int .i64 c, .bool true]) (by simp [results, Try.results87, go_sem]) rfl ⟨rfl, HB4.out⟩
set_option maxHeartbeats 1000000 in
theorem scount_any (h : SlAt w b m) (s : Int) : Calls Try.prog 57 #[sp b.s, .int .i64 s] w fun e w' => e = .returned (.int .i64 (cntS m s m.ll.length : Nat)) ∧ w = w' := by
  obtain ⟨_, ⟨c5, _⟩, _⟩ := sl_cells h
  obtain ⟨W1, l⟩ := h.li
  have HL := Lib.hid (blen_any l)
  have HS := Lib.hid (fun k => sstate_any h k)
  have hz := h.hd.1
  have hn := l.nb
  unfold sp at *
  clear h l
  go_enter Try.func57, Try.ntmps57
  go_wp2_with fail
  refine HL.out.mono ?_
  rintro e w1 ⟨rfl, rfl⟩
  go_wp2_with fail
  go_loopw [5, 14] (fun nv kv wr => ∃ k : Nat, k ≤ m.ll.length ∧ kv = .int .i64 k ∧ (∃ n : Nat, nv = .int .i64 n ∧ n ≤ k ∧ Hid (n = cntS m s k)) ∧ wr = w) (fun _ kv _ => m.ll.length - (intOf kv).toNat)
  case atStart => exact ⟨0, Nat.zero_le _, rfl, ⟨0, rfl, Nat.le_refl _, Lib.hid rfl⟩, rfl⟩
  case round =>
    obtain ⟨k, hk, rfl, ⟨n, rfl, hnk, HN⟩, rfl⟩ := hrel
    have k0 : (0 : Int) ≤ k := by omega
    by_cases hlt : k < m.ll.length
    · have k1 : (k : Int) < m.ll.length := by omega
      have HC := Lib.hid (cntS_succ m s k)
      have HSK := Lib.hid (HS.out (k : Int))
      by_cases hq : stI m k = s
      · rw [if_pos hq] at HC
        have hq2 : (stI m k == s) = true := by simp [hq]
        generalize stI m (k : Int) = t at *
        clear hq
        go_wp2_with fail
        refine HSK.out.mono ?_
        rintro e w1 ⟨rfl, rfl⟩
        go_wp2_with fail
        go_roundw
        case rel => exact ⟨k + 1, by omega, by first | rfl | go_num, ⟨n + 1, by first | rfl | go_num, by omega, Lib.hid (by rw [HC.out, HN.out])⟩, by first | rfl | trivial⟩
        case measure => simp [intOf]; omega
      · rw [if_neg hq] at HC
        have hq2 : (stI m k == s) = false := by simp [hq]
        generalize stI m (k : Int) = t at *
        clear hq
        go_wp2_with fail
        refine HSK.out.mono ?_
        rintro e w1 ⟨rfl, rfl⟩
        go_wp2_with fail
        go_roundw
        case rel => exact ⟨k + 1, by omega, by first | rfl | go_num, ⟨n, by first | rfl | go_num, by omega, Lib.hid (by rw [HC.out, HN.out]; rfl)⟩, by first | rfl | trivial⟩
        case measure => simp [intOf]; omega
    · have k1 : ¬ ((k : Int) < m.ll.length) := by omega
      have HF : Hid (n = cntS m s m.ll.length) := Lib.hid (by rw [HN.out, show k = m.ll.length by omega])
      go_wp2_with fail
      go_ret
      exact ⟨by rw [← HF.out]; rfl, rfl⟩
theorem gone1_no (w : World) : Calls Try.prog 114 #[.int .u8 221] w fun e w' => e = .returned (.bool false) ∧ w = w' := by
  go_enter Try.func114, Try.ntmps114
  go_wp2_with fail
  go_ret
  exact ⟨rfl, rfl⟩
set_option maxHeartbeats 800000 in
theorem idxB_no (u : Value) (xs : List Int) (w : World) (h : ReadB w u xs) (ha : ∀ x ∈ xs, x = 221) : Calls Try.prog 119 #[u, .func (.func 114) #[] #[]] w fun e w' => e = .returned (.int .i64 (-1)) ∧ w = w' := by
  obtain ⟨a, cap, rfl, h1, h2, h3, h4⟩ := h
  have hl : (xs.length : Int) ≤ 9223372036854775807 := by have := cap_le h2; omega
  have hc1 : (xs.length : Int) ≤ cap := by omega
  have H4 := Lib.hid h4
  have HA := Lib.hid ha
  clear h1 h2 h3 h4 ha
  go_enter Try.func119, Try.ntmps119
  go_wp2_with fail
  go_loopw [8] (fun i wr => ∃ k : Nat, k ≤ xs.length ∧ i = .int .i64 k ∧ wr = w) (fun i _ => xs.length - (intOf i).toNat)
  case atStart => exact ⟨0, Nat.zero_le _, rfl, rfl⟩
  case round =>
    obtain ⟨k, hk, rfl, rfl⟩ := hrel
    have k0 : (0 : Int) ≤ k := by omega
    by_cases hlt : k < xs.length
    · obtain ⟨bl, off, ea, hbl, r4⟩ := H4.out (by omega)
      subst ea
      have k1 : (k : Int) < xs.length := by omega
      have hc := r4 k hlt
      rw [List.getD_eq_getElem?_getD, List.getElem?_eq_getElem hlt, Option.getD_some, HA.out _ (List.getElem_mem hlt)] at hc
      clear r4
      go_wp2_with fail
      refine (gone1_no _).mono ?_
      rintro e w' ⟨rfl, rfl⟩
      go_wp2_with fail
      go_roundw
      case rel => exact ⟨k + 1, by omega, by first | rfl | trivial | go_num, by first | trivial | rfl⟩
      case measure => simp [intOf]; omega
    · have k1 : ¬ ((k : Int) < xs.length) := by omega
      go_wp2_with fail
      go_ret
      exact ⟨rfl, rfl⟩
theorem contB_no (u : Value) (xs : List Int) (w : World) (h : ReadB w u xs) (ha : ∀ x ∈ xs, x = 221) : Calls Try.prog 113 #[u, .func (.func 114) #[] #[]] w fun e w' => e = .returned (.bool false) ∧ w = w' := by
  have HI := Lib.hid (idxB_no u xs w h ha)
  clear h ha
  go_enter Try.func113, Try.ntmps113
  go_wp2_with fail
  refine HI.out.mono ?_
  rintro e w' ⟨rfl, rfl⟩
  go_wp2_with fail
  go_ret
  exact ⟨rfl, rfl⟩
set_option maxHeartbeats 1000000 in
theorem sgone_any (h : SlAt w b m) (g : SGood m P Z N fl) {k : Nat} (hk : k < N) (hl : m.hl.getD k false = true) : Calls Try.prog 98 #[sp b.s, .int .i64 k] w fun e w' => e = .returned (.bool true) ∧ Below w.heap.size w w' := by
  have HB := Lib.hid (fun w' (hb : Below w.heap.size w w') => sbase_any (sl_below h hb) (k : Int))
  rw [good_base g hk] at HB
  have HZ := Lib.hid (fun w' => size_any m.cl w')
  rw [(cls_nums g.zn).1] at HZ
  have HLD := Lib.hid (fun w' (hb : Below w.heap.size w w') => aload_any (are_below h.ar hb) ((bsN P Z k : Nat) : Int) (Z : Int))
  have HG := Lib.hid (good_load g hk hl)
  have HC : Hid (∀ w', Below w.heap.size w w' → w'.cell? ⟨b.s, 0, none⟩ = some (tp b.ab) ∧ w'.cell? ⟨b.s, 3, none⟩ = some (.int .i64 m.cl)) := Lib.hid (fun w' hb => ⟨(sl_cells (sl_below h hb)).1.1.1, (sl_cells (sl_below h hb)).1.2.2⟩)
  generalize bsN P Z k = a at *
  unfold sp tp at *
  clear h g
  go_enter Try.func98, Try.ntmps98
  go_upto_region 1 with fail
  refine wp_region_held_drew (S := fun w' => w'.cell? ⟨b.s, 0, none⟩ = some (.pointer (some ⟨b.ab, 0, none⟩)) ∧ w'.cell? ⟨b.s, 3, none⟩ = some (.int .i64 m.cl)) (by kernel_rfl) (HC.out _ (b_drew (Below.refl _ _))) (fun hHeld => ?_)
  refine atI 0 ?_
  iterate 6 (refine takeN (v := ?_) rfl (by rfl) ?_ hHeld ?_; rotate_left; (focus (intro w hSw; (try dsimp only at hSw); go_simp; try (with_reducible rfl))); (try simp only [Act.put, Nat.reduceAdd, List.getElem_toArray, List.getElem_cons_succ, List.getElem_cons_zero, List.setIfInBounds_toArray, List.set_cons_zero, List.set_cons_succ]))
  refine atIo ?_
  refine atI 7 ?_
  iterate 4 (refine takeN (v := ?_) rfl (by rfl) ?_ hHeld ?_; rotate_left; (focus (intro w hSw; (try dsimp only at hSw); go_simp; try (with_reducible rfl))); (try simp only [Act.put, Nat.reduceAdd, List.getElem_toArray, List.getElem_cons_succ, List.getElem_cons_zero, List.setIfInBounds_toArray, List.set_cons_zero, List.set_cons_succ]))
  refine atIo ?_
  refine wpAnyH_ready (rs := [6]) (by kernel_rfl) (by simp) (AllReadyH.cons rfl (fun K hK => ?_) AllReadyH.nil)
  go_simp
  refine (HB.out _ (b_drew (Below.refl _ _))).mono ?_
  rintro e w1 ⟨rfl, hb1⟩
  have HB1 := Lib.hid (b_call (b_drew (Below.refl w.heap.size w)) hb1)
  clear hb1
  refine hK.out _ _ (HC.out _ HB1.out) (fun hHeld => ?_)
  clear hK K
  (try simp only [Act.put, List.getElem_toArray, List.getElem_cons_succ, List.getElem_cons_zero, List.setIfInBounds_toArray, List.set_cons_zero, List.set_cons_succ])
  refine wpAnyH_ready (rs := [11]) (by kernel_rfl) (by simp) (AllReadyH.cons rfl (fun K hK => ?_) AllReadyH.nil)
  go_simp
  refine (HZ.out _).mono ?_
  rintro e w2 ⟨rfl, rfl⟩
  refine hK.out _ _ (HC.out _ HB1.out) (fun hHeld => ?_)
  clear hK K
  (try simp only [Act.put, List.getElem_toArray, List.getElem_cons_succ, List.getElem_cons_zero, List.setIfInBounds_toArray, List.set_cons_zero, List.set_cons_succ])
  refine wpAnyH_ready (rs := [12]) (by kernel_rfl) (by simp) (AllReadyH.cons rfl (fun K hK => ?_) AllReadyH.nil)
  go_simp
  refine (HLD.out _ HB1.out).mono ?_
  rintro e w3 ⟨v3, rfl, hr3, hb3, _⟩
  have HB3 := Lib.hid (b_call HB1.out hb3)
  have HR3 := Lib.hid hr3
  clear hr3 hb3
  refine hK.out _ _ (HC.out _ HB3.out) (fun hHeld => ?_)
  clear hK K
  (try simp only [Act.put, List.getElem_toArray, List.getElem_cons_succ, List.getElem_cons_zero, List.setIfInBounds_toArray, List.set_cons_zero, List.set_cons_succ])
  refine atI 13 ?_
  iterate 5 (refine takeN (v := ?_) rfl (by rfl) ?_ hHeld ?_; rotate_left; (focus (intro w hSw; (try dsimp only at hSw); go_simp; try (with_reducible rfl))); (try simp only [Act.put, Nat.reduceAdd, List.getElem_toArray, List.getElem_cons_succ, List.getElem_cons_zero, List.setIfInBounds_toArray, List.set_cons_zero, List.set_cons_succ]))
  refine atIo ?_
  refine wpAnyH_done (by kernel_rfl) ?_ _
  have HCB := Lib.hid (contB_no v3 _ w3 HR3.out HG.out)
  go_wp2_with fail
  refine HCB.out.mono ?_
  rintro e w4 ⟨rfl, rfl⟩
  go_wp2_with fail
  go_ret
  exact ⟨rfl, HB3.out⟩
end Go.Proofs.Ytgbbnmjfkhconaa
