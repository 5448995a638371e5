/- Layer 28: the law's step with a Return, a Go, and what is none. Conditions: those stated. Layer 28: the law's step with a Push, a SetLocal. Conditions: those stated. -/
import Derived.Test.YtdmidnmciaediaaWFrK
import Derived.Deep.DeepCutAuto
import Derived.BigQuiet
namespace Go.Proofs.Ytdmidnmciaediaa
section
open Go.RowKit
set_option linter.unusedVariables false
set_option linter.unusedSimpArgs false
attribute [local go_sem] over_cell over_frozen
variable {w0 w w' w2 : World} {r s : Nat} {p q : PrV} {P : PrM} {L L' LF LD LX : List FrM} {m : FrM} {v0 : World} {n0 : Nat}
set_option maxRecDepth 100000 in
set_option maxHeartbeats 16000000 in
theorem lstep_7 (h : PAt n0 w s p P L) (hd : DAt v0 w r q L) (hv : v0.heap.size ≤ n0) (hP : ReadP v0 q P) (hS : SmallP P) (hL : LInv P L) (o : OpM) {a : Option Addr} {c : Nat} (ha : ReadR valE v0 (.slice a o.args.length c) o.args) (hk : o.kind = 7) : Calls Try.prog 25 #[fp s, rp r, aggOp o.kind o.f o.k o.v a o.args.length c o.fit] w (StepEnd n0 v0 s p r q P) := by
  have HPA := Lib.hid h
  have HDA := Lib.hid hd
  have HV := Lib.hid hv
  have HRP := Lib.hid hP
  have HS28 := Lib.hid hS
  have HLI := Lib.hid hL
  have HBV : Hid (Below v0.heap.size v0 w) := Lib.hid (by obtain ⟨_, z⟩ := hd; exact z.be)
  obtain ⟨kd, f, k, ⟨vk, vb⟩, A, ft⟩ := o
  simp only at hk ha
  subst hk
  have HA := Lib.hid ha
  obtain ⟨_, cA, eA, hA1, hA2⟩ := readR_len ha
  injection eA with eA1 eA2 eA3
  have hAc := cap_le hA2
  have nA : (A.length : Int) ≤ c := by omega
  have ncc : (c : Int) ≤ 9223372036854775807 := by omega
  clear h hd hv hP hS hL ha eA1 eA2 eA3 hA1 hA2 hAc
  unfold fp rp aggOp
  simp only
  go_enter Try.func25, Try.ntmps25
  go_upto_region 1 with fail
  refine wp_named ?_
  intro W hW
  have HX0 : Hid (Blk W w.heap.size [.int .i64 7, .int .i64 f, .int .i64 k, .int .i64 vk, .int .u64 vb, .slice a A.length c, .bool ft] ∧ tyB W w.heap.size = some OPT ∧ Below w.heap.size w W) := Lib.hid (by rw [hW]; exact ⟨blk_new _ _ _, tyB_new _ _ _, b_alloc (Below.refl _ _) _⟩)
  clear hW
  obtain ⟨x0, x1, x2, x3, x4, x5, x6, xf⟩ := blk7z HX0.out.1
  have xz := HX0.out.1.1
  go_upto_if 18 with fail
  go_cut [] from 19 to 22 (fun wx => ∃ (n1 : Nat), Hid (n1 = (A.take 10).length ∧ Blk wx w.heap.size [.int .i64 7, .int .i64 f, .int .i64 k, .int .i64 vk, .int .u64 vb, .slice a n1 c, .bool ft] ∧ tyB wx w.heap.size = some OPT ∧ Below w.heap.size w wx))
  case first =>
    by_cases h10 : (A.length : Int) > 10
    · have n10 : (10 : Int) ≤ c := by omega
      go_wp2_with fail
      go_meet
      case rel => exact ⟨10, Lib.hid ⟨by rw [List.length_take]; omega, blk_set HX0.out.1 5 (.slice a 10 c), by rw [tyB_set]; exact HX0.out.2.1, b_set HX0.out.2.2 (p := ⟨w.heap.size, 5, none⟩) (Nat.le_refl _) _⟩⟩
    · go_wp2_with fail
      go_meet
      case rel => exact ⟨A.length, Lib.hid ⟨by rw [List.length_take]; omega, HX0.out⟩⟩
  case rest =>
  obtain ⟨n1, hcut⟩ := hcut
  obtain ⟨A1, hA1⟩ : ∃ A1, A1 = A.take 10 := ⟨_, rfl⟩
  have hn1 := hcut.out.1
  rw [← hA1] at hn1
  have HA1 : Hid (ReadR valE v0 (.slice a A1.length c) A1 ∧ A1.length ≤ 10) := Lib.hid (by rw [hA1]; exact ⟨by rw [List.length_take]; exact (by have z := readR_take (n := min 10 A.length) HA.out (Nat.min_le_right _ _); rwa [← List.take_eq_take_min] at z), by rw [List.length_take]; omega⟩)
  subst hn1
  have HX1 : Hid (Blk wc w.heap.size [.int .i64 7, .int .i64 f, .int .i64 k, .int .i64 vk, .int .u64 vb, .slice a A1.length c, .bool ft] ∧ tyB wc w.heap.size = some OPT ∧ Below w.heap.size w wc) := Lib.hid hcut.out.2
  clear hcut hA1 x0 x1 x2 x3 x4 x5 x6 xf xz HX0
  obtain ⟨x0, x1, x2, x3, x4, x5, x6, xf⟩ := blk7z HX1.out.1
  have xz := HX1.out.1.1
  go_wp2_with fail
  refine (lfit_any (dat_below HDA.out HX1.out.2.2) HRP.out HS28.out HLI.out ⟨7, f, k, ⟨vk, vb⟩, A1, ft⟩ (readR_below HA1.out.1 (b_call HBV.out HX1.out.2.2))).mono ?_
  have HO2 := Lib.hid (And.intro (fitM_args (L := L) HS28.out ⟨7, f, k, ⟨vk, vb⟩, A1, ft⟩ HA1.out.2) (fitM_kind (P := P) (L := L) ⟨7, f, k, ⟨vk, vb⟩, A1, ft⟩))
  revert HO2
  generalize fitM P L ⟨7, f, k, ⟨vk, vb⟩, A1, ft⟩ = o2
  obtain ⟨kd2, f2, k2, ⟨yk, yb⟩, A2, ft2⟩ := o2
  intro HO2 e w3 hfe
  unfold FitEnd at hfe
  obtain ⟨a2, c2, rfl, hr2, hb2, hor⟩ := hfe
  obtain ⟨hl10, e1, e2, e3, e4⟩ := HO2.out
  simp only at hl10 e1 e2 e3 e4 hr2 hor
  replace e1 := e1.symm
  replace e2 := e2.symm
  replace e3 := e3.symm
  replace e4 := e4.symm
  subst e1 e2 e3 e4
  have HX3 := Lib.hid (blk_below HX1.out.1 hb2)
  have HT3 := Lib.hid (tyB_call HX1.out.2.1 hb2)
  have HR2 := Lib.hid hr2
  have HB2 := Lib.hid hb2
  have HOR := Lib.hid hor
  have HL10 := Lib.hid hl10
  clear hr2 hb2 hor HO2 x0 x1 x2 x3 x4 x5 x6 xf xz hl10
  obtain ⟨x0, x1, x2, x3, x4, x5, x6, xf⟩ := blk7z HX3.out
  have xz := HX3.out.1
  unfold aggOp
  simp only
  go_upto_region 4 with fail
  refine wp_named ?_
  intro W3 hW3
  have HST : Hid (StS n0 v0 s p r q P L L w.heap.size [.int .i64 7, .int .i64 f, .int .i64 k, .int .i64 yk, .int .u64 yb, .slice a2 A2.length c2, .bool ft] a2 A2.length c2 A2 W3) := Lib.hid (by
    have hg : w3.grownBy W3 (some w.heap.size) := by rw [hW3]; exact gb_set (gb_set (gb_set (gb_set (gb_set (gb_set (gb_set (gb_refl w3 (some w.heap.size)) 0 none (.int .i64 7)) 1 none (.int .i64 f)) 2 none (.int .i64 k)) 3 none (.int .i64 yk)) 4 none (.int .u64 yb)) 5 none (.slice a2 A2.length c2)) 6 none (.bool ft)
    have hbw : Below w.heap.size w W3 := b_grown (b_call HX1.out.2.2 HB2.out) hg (Nat.le_refl _)
    refine ⟨pat_below HPA.out hbw, dat_below HDA.out hbw, by rw [hW3]; exact blk_set (blk_set (blk_set (blk_set (blk_set (blk_set (blk_set (HX3.out) 0 (.int .i64 7)) 1 (.int .i64 f)) 2 (.int .i64 k)) 3 (.int .i64 yk)) 4 (.int .u64 yb)) 5 (.slice a2 A2.length c2)) 6 (.bool ft), by rw [hW3, tyB_set, tyB_set, tyB_set, tyB_set, tyB_set, tyB_set, tyB_set]; exact HT3.out, ?_, ?_⟩
    · rcases HOR.out with ⟨z1, z2, z3⟩ | ⟨z1, z2⟩
      · subst z1 z2 z3
        exact readR_below HA1.out.1 (b_call HBV.out hbw)
      · exact readR_grown HR2.out hg (Or.inr (fun e => by have := z2 _ e; have := HX1.out.1.1; omega))
    · rcases HOR.out with ⟨z1, z2, z3⟩ | ⟨z1, z2⟩
      · subst z1 z2 z3
        exact Or.inl HA1.out.1
      · exact Or.inr (slOk_keep z1 (fun k hk => by rw [hW3, tyB_set, tyB_set, tyB_set, tyB_set, tyB_set, tyB_set, tyB_set]; exact hk)))
  clear hW3 x0 x1 x2 x3 x4 x5 x6 xf xz HX3 HT3 HR2 HB2 HOR HX1 HA1 HBV HA
  have HCE : Hid (∀ LF LD w', StS n0 v0 s p r q P LF LD w.heap.size [.int .i64 7, .int .i64 f, .int .i64 k, .int .i64 yk, .int .u64 yb, .slice a2 A2.length c2, .bool ft] a2 A2.length c2 A2 w' → (w'.cell? ⟨w.heap.size, 1, none⟩ = some (.int .i64 f) ∧ w'.cell? ⟨w.heap.size, 2, none⟩ = some (.int .i64 k)) ∧ (w'.cell? ⟨w.heap.size, 3, none⟩ = some (.int .i64 yk) ∧ w'.cell? ⟨w.heap.size, 4, none⟩ = some (.int .u64 yb)) ∧ w'.cell? ⟨w.heap.size, 5, none⟩ = some (.slice a2 A2.length c2)) := Lib.hid (fun LF LD w' h => by
    obtain ⟨x0, x1, x2, x3, x4, x5, x6, xf⟩ := blk7z h.bx
    exact ⟨⟨x1, x2⟩, ⟨x3, x4⟩, x5⟩)
  have HPA3 := Lib.hid HST.out.pa
  obtain ⟨x0, x1, x2, x3, x4, x5, x6, xf⟩ := blk7z HST.out.bx
  have xz := HST.out.bx.1
  have HCF := Lib.hid (fun (w' : World) (h' : PAt n0 w' s p P L) => fgo_all h' HS28.out HLI.out k)
  have HCD := Lib.hid (fun (w' : World) (h' : DAt v0 w' r q L) => rgo_all h' HRP.out HS28.out HLI.out k)
  have HXI := Lib.hid (go_inv HLI.out k)
  revert HCF HCD HXI
  generalize goM P L k = X
  obtain ⟨LX, xc⟩ := X
  intro HCF HCD HXI
  have hxx : (xc == xc) = true := by simp
  go_upto_region 23 with fail
  clear x0 x1 x2 x3 x4 x5 x6 xf xz
  refine wp_region_held_drew (S := fun w' => (w'.cell? ⟨w.heap.size, 1, none⟩ = some (.int .i64 f) ∧ w'.cell? ⟨w.heap.size, 2, none⟩ = some (.int .i64 k)) ∧ (w'.cell? ⟨w.heap.size, 3, none⟩ = some (.int .i64 yk) ∧ w'.cell? ⟨w.heap.size, 4, none⟩ = some (.int .u64 yb)) ∧ w'.cell? ⟨w.heap.size, 5, none⟩ = some (.slice a2 A2.length c2)) (by kernel_rfl) (HCE.out _ _ _ (st_below HST.out (b_drew (Below.refl _ _)))) (fun hHeld => ?_)
  refine atI 0 ?_
  iterate 3 (refine takeN (v := ?_) rfl (by rfl) ?_ hHeld ?_; rotate_left; (focus (intro w hSw; (try dsimp only at hSw); go_simp; try (with_reducible rfl))); (try simp only [Act.put, Nat.reduceAdd, List.getElem_toArray, List.getElem_cons_succ, List.getElem_cons_zero, List.setIfInBounds_toArray, List.set_cons_zero, List.set_cons_succ]))
  refine atIo ?_
  refine atI 4 ?_
  iterate 3 (refine takeN (v := ?_) rfl (by rfl) ?_ hHeld ?_; rotate_left; (focus (intro w hSw; (try dsimp only at hSw); go_simp; try (with_reducible rfl))); (try simp only [Act.put, Nat.reduceAdd, List.getElem_toArray, List.getElem_cons_succ, List.getElem_cons_zero, List.setIfInBounds_toArray, List.set_cons_zero, List.set_cons_succ]))
  refine atIo ?_
  refine wpAnyH_named ?_
  intro tz htz
  have HSTtz := Lib.hid (st_below HST.out (show Below W3.heap.size W3 tz by rw [htz]; exact b_drew (Below.refl _ _)))
  clear htz
  refine wpAnyH_ready (rs := [3]) (by kernel_rfl) (by simp) (AllReadyH.cons rfl (fun K hK => ?_) AllReadyH.nil)
  go_simp
  refine (HCF.out _ HSTtz.out.pa).mono ?_
  rintro e t4 ⟨rfl, ht⟩
  have HSTt4 := Lib.hid (st_F HSTtz.out ht HV.out)
  clear ht
  refine hK.out _ _ (HCE.out _ _ _ HSTt4.out) (fun hHeld => ?_)
  clear hK K
  (try simp only [Act.put, List.getElem_toArray, List.getElem_cons_succ, List.getElem_cons_zero, List.setIfInBounds_toArray, List.set_cons_zero, List.set_cons_succ])
  refine wpAnyH_ready (rs := [7]) (by kernel_rfl) (by simp) (AllReadyH.cons rfl (fun K hK => ?_) AllReadyH.nil)
  go_simp
  refine (HCD.out _ HSTt4.out.da).mono ?_
  rintro e t5 ⟨rfl, ht⟩
  have HSTt5 := Lib.hid (st_D HSTt4.out ht)
  clear ht
  refine hK.out _ _ (HCE.out _ _ _ HSTt5.out) (fun hHeld => ?_)
  clear hK K
  (try simp only [Act.put, List.getElem_toArray, List.getElem_cons_succ, List.getElem_cons_zero, List.setIfInBounds_toArray, List.set_cons_zero, List.set_cons_succ])
  refine atI 8 ?_
  iterate 2 (refine takeN (v := ?_) rfl (by rfl) ?_ hHeld ?_; rotate_left; (focus (intro w hSw; (try dsimp only at hSw); go_simp; try (with_reducible rfl))); (try simp only [Act.put, Nat.reduceAdd, List.getElem_toArray, List.getElem_cons_succ, List.getElem_cons_zero, List.setIfInBounds_toArray, List.set_cons_zero, List.set_cons_succ]))
  refine atIo ?_
  refine wpAnyH_done (by kernel_rfl) ?_ _
  go_wp2_with fail
  go_ret
  exact ⟨rfl, LX, HSTt5.out.pa, HSTt5.out.da, HXI.out⟩
set_option maxRecDepth 100000 in
set_option maxHeartbeats 16000000 in
theorem lstep_1 (h : PAt n0 w s p P L) (hd : DAt v0 w r q L) (hv : v0.heap.size ≤ n0) (hP : ReadP v0 q P) (hS : SmallP P) (hL : LInv P L) (o : OpM) {a : Option Addr} {c : Nat} (ha : ReadR valE v0 (.slice a o.args.length c) o.args) (hk : o.kind = 1) : Calls Try.prog 25 #[fp s, rp r, aggOp o.kind o.f o.k o.v a o.args.length c o.fit] w (StepEnd n0 v0 s p r q P) := by
  have HPA := Lib.hid h
  have HDA := Lib.hid hd
  have HV := Lib.hid hv
  have HRP := Lib.hid hP
  have HS28 := Lib.hid hS
  have HLI := Lib.hid hL
  have HBV : Hid (Below v0.heap.size v0 w) := Lib.hid (by obtain ⟨_, z⟩ := hd; exact z.be)
  obtain ⟨kd, f, k, ⟨vk, vb⟩, A, ft⟩ := o
  simp only at hk ha
  subst hk
  have HA := Lib.hid ha
  obtain ⟨_, cA, eA, hA1, hA2⟩ := readR_len ha
  injection eA with eA1 eA2 eA3
  have hAc := cap_le hA2
  have nA : (A.length : Int) ≤ c := by omega
  have ncc : (c : Int) ≤ 9223372036854775807 := by omega
  clear h hd hv hP hS hL ha eA1 eA2 eA3 hA1 hA2 hAc
  unfold fp rp aggOp
  simp only
  go_enter Try.func25, Try.ntmps25
  go_upto_region 1 with fail
  refine wp_named ?_
  intro W hW
  have HX0 : Hid (Blk W w.heap.size [.int .i64 1, .int .i64 f, .int .i64 k, .int .i64 vk, .int .u64 vb, .slice a A.length c, .bool ft] ∧ tyB W w.heap.size = some OPT ∧ Below w.heap.size w W) := Lib.hid (by rw [hW]; exact ⟨blk_new _ _ _, tyB_new _ _ _, b_alloc (Below.refl _ _) _⟩)
  clear hW
  obtain ⟨x0, x1, x2, x3, x4, x5, x6, xf⟩ := blk7z HX0.out.1
  have xz := HX0.out.1.1
  go_upto_if 18 with fail
  go_cut [] from 19 to 22 (fun wx => ∃ (n1 : Nat), Hid (n1 = (A.take 10).length ∧ Blk wx w.heap.size [.int .i64 1, .int .i64 f, .int .i64 k, .int .i64 vk, .int .u64 vb, .slice a n1 c, .bool ft] ∧ tyB wx w.heap.size = some OPT ∧ Below w.heap.size w wx))
  case first =>
    by_cases h10 : (A.length : Int) > 10
    · have n10 : (10 : Int) ≤ c := by omega
      go_wp2_with fail
      go_meet
      case rel => exact ⟨10, Lib.hid ⟨by rw [List.length_take]; omega, blk_set HX0.out.1 5 (.slice a 10 c), by rw [tyB_set]; exact HX0.out.2.1, b_set HX0.out.2.2 (p := ⟨w.heap.size, 5, none⟩) (Nat.le_refl _) _⟩⟩
    · go_wp2_with fail
      go_meet
      case rel => exact ⟨A.length, Lib.hid ⟨by rw [List.length_take]; omega, HX0.out⟩⟩
  case rest =>
  obtain ⟨n1, hcut⟩ := hcut
  obtain ⟨A1, hA1⟩ : ∃ A1, A1 = A.take 10 := ⟨_, rfl⟩
  have hn1 := hcut.out.1
  rw [← hA1] at hn1
  have HA1 : Hid (ReadR valE v0 (.slice a A1.length c) A1 ∧ A1.length ≤ 10) := Lib.hid (by rw [hA1]; exact ⟨by rw [List.length_take]; exact (by have z := readR_take (n := min 10 A.length) HA.out (Nat.min_le_right _ _); rwa [← List.take_eq_take_min] at z), by rw [List.length_take]; omega⟩)
  subst hn1
  have HX1 : Hid (Blk wc w.heap.size [.int .i64 1, .int .i64 f, .int .i64 k, .int .i64 vk, .int .u64 vb, .slice a A1.length c, .bool ft] ∧ tyB wc w.heap.size = some OPT ∧ Below w.heap.size w wc) := Lib.hid hcut.out.2
  clear hcut hA1 x0 x1 x2 x3 x4 x5 x6 xf xz HX0
  obtain ⟨x0, x1, x2, x3, x4, x5, x6, xf⟩ := blk7z HX1.out.1
  have xz := HX1.out.1.1
  go_wp2_with fail
  refine (lfit_any (dat_below HDA.out HX1.out.2.2) HRP.out HS28.out HLI.out ⟨1, f, k, ⟨vk, vb⟩, A1, ft⟩ (readR_below HA1.out.1 (b_call HBV.out HX1.out.2.2))).mono ?_
  have HO2 := Lib.hid (And.intro (fitM_args (L := L) HS28.out ⟨1, f, k, ⟨vk, vb⟩, A1, ft⟩ HA1.out.2) (fitM_kind (P := P) (L := L) ⟨1, f, k, ⟨vk, vb⟩, A1, ft⟩))
  revert HO2
  generalize fitM P L ⟨1, f, k, ⟨vk, vb⟩, A1, ft⟩ = o2
  obtain ⟨kd2, f2, k2, ⟨yk, yb⟩, A2, ft2⟩ := o2
  intro HO2 e w3 hfe
  unfold FitEnd at hfe
  obtain ⟨a2, c2, rfl, hr2, hb2, hor⟩ := hfe
  obtain ⟨hl10, e1, e2, e3, e4⟩ := HO2.out
  simp only at hl10 e1 e2 e3 e4 hr2 hor
  replace e1 := e1.symm
  replace e2 := e2.symm
  replace e3 := e3.symm
  replace e4 := e4.symm
  subst e1 e2 e3 e4
  have HX3 := Lib.hid (blk_below HX1.out.1 hb2)
  have HT3 := Lib.hid (tyB_call HX1.out.2.1 hb2)
  have HR2 := Lib.hid hr2
  have HB2 := Lib.hid hb2
  have HOR := Lib.hid hor
  have HL10 := Lib.hid hl10
  clear hr2 hb2 hor HO2 x0 x1 x2 x3 x4 x5 x6 xf xz hl10
  obtain ⟨x0, x1, x2, x3, x4, x5, x6, xf⟩ := blk7z HX3.out
  have xz := HX3.out.1
  unfold aggOp
  simp only
  go_upto_region 4 with fail
  refine wp_named ?_
  intro W3 hW3
  have HST : Hid (StS n0 v0 s p r q P L L w.heap.size [.int .i64 1, .int .i64 f, .int .i64 k, .int .i64 yk, .int .u64 yb, .slice a2 A2.length c2, .bool ft] a2 A2.length c2 A2 W3) := Lib.hid (by
    have hg : w3.grownBy W3 (some w.heap.size) := by rw [hW3]; exact gb_set (gb_set (gb_set (gb_set (gb_set (gb_set (gb_set (gb_refl w3 (some w.heap.size)) 0 none (.int .i64 1)) 1 none (.int .i64 f)) 2 none (.int .i64 k)) 3 none (.int .i64 yk)) 4 none (.int .u64 yb)) 5 none (.slice a2 A2.length c2)) 6 none (.bool ft)
    have hbw : Below w.heap.size w W3 := b_grown (b_call HX1.out.2.2 HB2.out) hg (Nat.le_refl _)
    refine ⟨pat_below HPA.out hbw, dat_below HDA.out hbw, by rw [hW3]; exact blk_set (blk_set (blk_set (blk_set (blk_set (blk_set (blk_set (HX3.out) 0 (.int .i64 1)) 1 (.int .i64 f)) 2 (.int .i64 k)) 3 (.int .i64 yk)) 4 (.int .u64 yb)) 5 (.slice a2 A2.length c2)) 6 (.bool ft), by rw [hW3, tyB_set, tyB_set, tyB_set, tyB_set, tyB_set, tyB_set, tyB_set]; exact HT3.out, ?_, ?_⟩
    · rcases HOR.out with ⟨z1, z2, z3⟩ | ⟨z1, z2⟩
      · subst z1 z2 z3
        exact readR_below HA1.out.1 (b_call HBV.out hbw)
      · exact readR_grown HR2.out hg (Or.inr (fun e => by have := z2 _ e; have := HX1.out.1.1; omega))
    · rcases HOR.out with ⟨z1, z2, z3⟩ | ⟨z1, z2⟩
      · subst z1 z2 z3
        exact Or.inl HA1.out.1
      · exact Or.inr (slOk_keep z1 (fun k hk => by rw [hW3, tyB_set, tyB_set, tyB_set, tyB_set, tyB_set, tyB_set, tyB_set]; exact hk)))
  clear hW3 x0 x1 x2 x3 x4 x5 x6 xf xz HX3 HT3 HR2 HB2 HOR HX1 HA1 HBV HA
  have HCE : Hid (∀ LF LD w', StS n0 v0 s p r q P LF LD w.heap.size [.int .i64 1, .int .i64 f, .int .i64 k, .int .i64 yk, .int .u64 yb, .slice a2 A2.length c2, .bool ft] a2 A2.length c2 A2 w' → (w'.cell? ⟨w.heap.size, 1, none⟩ = some (.int .i64 f) ∧ w'.cell? ⟨w.heap.size, 2, none⟩ = some (.int .i64 k)) ∧ (w'.cell? ⟨w.heap.size, 3, none⟩ = some (.int .i64 yk) ∧ w'.cell? ⟨w.heap.size, 4, none⟩ = some (.int .u64 yb)) ∧ w'.cell? ⟨w.heap.size, 5, none⟩ = some (.slice a2 A2.length c2)) := Lib.hid (fun LF LD w' h => by
    obtain ⟨x0, x1, x2, x3, x4, x5, x6, xf⟩ := blk7z h.bx
    exact ⟨⟨x1, x2⟩, ⟨x3, x4⟩, x5⟩)
  have HPA3 := Lib.hid HST.out.pa
  obtain ⟨x0, x1, x2, x3, x4, x5, x6, xf⟩ := blk7z HST.out.bx
  have xz := HST.out.bx.1
  have HCF := Lib.hid (fun (w' : World) (h' : PAt n0 w' s p P L) => fret_all h')
  have HCD := Lib.hid (fun (w' : World) (h' : DAt v0 w' r q L) => rret_all h' HLI.out)
  have HXI := Lib.hid (ret_inv HLI.out)
  revert HCF HCD HXI
  generalize retM L = X
  obtain ⟨LX, xc⟩ := X
  intro HCF HCD HXI
  have hxx : (xc == xc) = true := by simp
  go_wp2_with fail
  refine (HCF.out _ HST.out.pa).mono ?_
  rintro e t1 ⟨rfl, ht⟩
  have HST1 := Lib.hid (st_F HST.out ht HV.out)
  clear ht x0 x1 x2 x3 x4 x5 x6 xf xz
  go_wp2_with fail
  refine (HCD.out _ HST1.out.da).mono ?_
  rintro e t2 ⟨rfl, ht⟩
  have HST2 := Lib.hid (st_D HST1.out ht)
  clear ht
  go_wp2_with fail
  go_ret
  exact ⟨rfl, LX, HST2.out.pa, HST2.out.da, HXI.out⟩
set_option maxRecDepth 100000 in
set_option maxHeartbeats 16000000 in
theorem lstep_x (h : PAt n0 w s p P L) (hd : DAt v0 w r q L) (hv : v0.heap.size ≤ n0) (hP : ReadP v0 q P) (hS : SmallP P) (hL : LInv P L) (o : OpM) {a : Option Addr} {c : Nat} (ha : ReadR valE v0 (.slice a o.args.length c) o.args) (hk : o.kind ≠ 0 ∧ o.kind ≠ 1 ∧ o.kind ≠ 2 ∧ o.kind ≠ 3 ∧ o.kind ≠ 4 ∧ o.kind ≠ 5 ∧ o.kind ≠ 6 ∧ o.kind ≠ 7) : Calls Try.prog 25 #[fp s, rp r, aggOp o.kind o.f o.k o.v a o.args.length c o.fit] w (StepEnd n0 v0 s p r q P) := by
  have HPA := Lib.hid h
  have HDA := Lib.hid hd
  have HV := Lib.hid hv
  have HRP := Lib.hid hP
  have HS28 := Lib.hid hS
  have HLI := Lib.hid hL
  have HBV : Hid (Below v0.heap.size v0 w) := Lib.hid (by obtain ⟨_, z⟩ := hd; exact z.be)
  obtain ⟨kd, f, k, ⟨vk, vb⟩, A, ft⟩ := o
  simp only at hk ha
  obtain ⟨g0, g1, g2, g3, g4, g5, g6, g7⟩ := hk
  replace g0 : (kd == 0) = false := beq_false_of_ne g0
  replace g1 : (kd == 1) = false := beq_false_of_ne g1
  replace g2 : (kd == 2) = false := beq_false_of_ne g2
  replace g3 : (kd == 3) = false := beq_false_of_ne g3
  replace g4 : (kd == 4) = false := beq_false_of_ne g4
  replace g5 : (kd == 5) = false := beq_false_of_ne g5
  replace g6 : (kd == 6) = false := beq_false_of_ne g6
  replace g7 : (kd == 7) = false := beq_false_of_ne g7
  have HA := Lib.hid ha
  obtain ⟨_, cA, eA, hA1, hA2⟩ := readR_len ha
  injection eA with eA1 eA2 eA3
  have hAc := cap_le hA2
  have nA : (A.length : Int) ≤ c := by omega
  have ncc : (c : Int) ≤ 9223372036854775807 := by omega
  clear h hd hv hP hS hL ha eA1 eA2 eA3 hA1 hA2 hAc
  unfold fp rp aggOp
  simp only
  go_enter Try.func25, Try.ntmps25
  go_upto_region 1 with fail
  refine wp_named ?_
  intro W hW
  have HX0 : Hid (Blk W w.heap.size [.int .i64 kd, .int .i64 f, .int .i64 k, .int .i64 vk, .int .u64 vb, .slice a A.length c, .bool ft] ∧ tyB W w.heap.size = some OPT ∧ Below w.heap.size w W) := Lib.hid (by rw [hW]; exact ⟨blk_new _ _ _, tyB_new _ _ _, b_alloc (Below.refl _ _) _⟩)
  clear hW
  obtain ⟨x0, x1, x2, x3, x4, x5, x6, xf⟩ := blk7z HX0.out.1
  have xz := HX0.out.1.1
  go_upto_if 18 with fail
  go_cut [] from 19 to 22 (fun wx => ∃ (n1 : Nat), Hid (n1 = (A.take 10).length ∧ Blk wx w.heap.size [.int .i64 kd, .int .i64 f, .int .i64 k, .int .i64 vk, .int .u64 vb, .slice a n1 c, .bool ft] ∧ tyB wx w.heap.size = some OPT ∧ Below w.heap.size w wx))
  case first =>
    by_cases h10 : (A.length : Int) > 10
    · have n10 : (10 : Int) ≤ c := by omega
      go_wp2_with fail
      go_meet
      case rel => exact ⟨10, Lib.hid ⟨by rw [List.length_take]; omega, blk_set HX0.out.1 5 (.slice a 10 c), by rw [tyB_set]; exact HX0.out.2.1, b_set HX0.out.2.2 (p := ⟨w.heap.size, 5, none⟩) (Nat.le_refl _) _⟩⟩
    · go_wp2_with fail
      go_meet
      case rel => exact ⟨A.length, Lib.hid ⟨by rw [List.length_take]; omega, HX0.out⟩⟩
  case rest =>
  obtain ⟨n1, hcut⟩ := hcut
  obtain ⟨A1, hA1⟩ : ∃ A1, A1 = A.take 10 := ⟨_, rfl⟩
  have hn1 := hcut.out.1
  rw [← hA1] at hn1
  have HA1 : Hid (ReadR valE v0 (.slice a A1.length c) A1 ∧ A1.length ≤ 10) := Lib.hid (by rw [hA1]; exact ⟨by rw [List.length_take]; exact (by have z := readR_take (n := min 10 A.length) HA.out (Nat.min_le_right _ _); rwa [← List.take_eq_take_min] at z), by rw [List.length_take]; omega⟩)
  subst hn1
  have HX1 : Hid (Blk wc w.heap.size [.int .i64 kd, .int .i64 f, .int .i64 k, .int .i64 vk, .int .u64 vb, .slice a A1.length c, .bool ft] ∧ tyB wc w.heap.size = some OPT ∧ Below w.heap.size w wc) := Lib.hid hcut.out.2
  clear hcut hA1 x0 x1 x2 x3 x4 x5 x6 xf xz HX0
  obtain ⟨x0, x1, x2, x3, x4, x5, x6, xf⟩ := blk7z HX1.out.1
  have xz := HX1.out.1.1
  go_wp2_with fail
  refine (lfit_any (dat_below HDA.out HX1.out.2.2) HRP.out HS28.out HLI.out ⟨kd, f, k, ⟨vk, vb⟩, A1, ft⟩ (readR_below HA1.out.1 (b_call HBV.out HX1.out.2.2))).mono ?_
  have HO2 := Lib.hid (And.intro (fitM_args (L := L) HS28.out ⟨kd, f, k, ⟨vk, vb⟩, A1, ft⟩ HA1.out.2) (fitM_kind (P := P) (L := L) ⟨kd, f, k, ⟨vk, vb⟩, A1, ft⟩))
  revert HO2
  generalize fitM P L ⟨kd, f, k, ⟨vk, vb⟩, A1, ft⟩ = o2
  obtain ⟨kd2, f2, k2, ⟨yk, yb⟩, A2, ft2⟩ := o2
  intro HO2 e w3 hfe
  unfold FitEnd at hfe
  obtain ⟨a2, c2, rfl, hr2, hb2, hor⟩ := hfe
  obtain ⟨hl10, e1, e2, e3, e4⟩ := HO2.out
  simp only at hl10 e1 e2 e3 e4 hr2 hor
  replace e1 := e1.symm
  replace e2 := e2.symm
  replace e3 := e3.symm
  replace e4 := e4.symm
  subst e1 e2 e3 e4
  have HX3 := Lib.hid (blk_below HX1.out.1 hb2)
  have HT3 := Lib.hid (tyB_call HX1.out.2.1 hb2)
  have HR2 := Lib.hid hr2
  have HB2 := Lib.hid hb2
  have HOR := Lib.hid hor
  have HL10 := Lib.hid hl10
  clear hr2 hb2 hor HO2 x0 x1 x2 x3 x4 x5 x6 xf xz hl10
  obtain ⟨x0, x1, x2, x3, x4, x5, x6, xf⟩ := blk7z HX3.out
  have xz := HX3.out.1
  unfold aggOp
  simp only
  go_upto_region 4 with fail
  refine wp_named ?_
  intro W3 hW3
  have HST : Hid (StS n0 v0 s p r q P L L w.heap.size [.int .i64 kd, .int .i64 f, .int .i64 k, .int .i64 yk, .int .u64 yb, .slice a2 A2.length c2, .bool ft] a2 A2.length c2 A2 W3) := Lib.hid (by
    have hg : w3.grownBy W3 (some w.heap.size) := by rw [hW3]; exact gb_set (gb_set (gb_set (gb_set (gb_set (gb_set (gb_set (gb_refl w3 (some w.heap.size)) 0 none (.int .i64 kd)) 1 none (.int .i64 f)) 2 none (.int .i64 k)) 3 none (.int .i64 yk)) 4 none (.int .u64 yb)) 5 none (.slice a2 A2.length c2)) 6 none (.bool ft)
    have hbw : Below w.heap.size w W3 := b_grown (b_call HX1.out.2.2 HB2.out) hg (Nat.le_refl _)
    refine ⟨pat_below HPA.out hbw, dat_below HDA.out hbw, by rw [hW3]; exact blk_set (blk_set (blk_set (blk_set (blk_set (blk_set (blk_set (HX3.out) 0 (.int .i64 kd)) 1 (.int .i64 f)) 2 (.int .i64 k)) 3 (.int .i64 yk)) 4 (.int .u64 yb)) 5 (.slice a2 A2.length c2)) 6 (.bool ft), by rw [hW3, tyB_set, tyB_set, tyB_set, tyB_set, tyB_set, tyB_set, tyB_set]; exact HT3.out, ?_, ?_⟩
    · rcases HOR.out with ⟨z1, z2, z3⟩ | ⟨z1, z2⟩
      · subst z1 z2 z3
        exact readR_below HA1.out.1 (b_call HBV.out hbw)
      · exact readR_grown HR2.out hg (Or.inr (fun e => by have := z2 _ e; have := HX1.out.1.1; omega))
    · rcases HOR.out with ⟨z1, z2, z3⟩ | ⟨z1, z2⟩
      · subst z1 z2 z3
        exact Or.inl HA1.out.1
      · exact Or.inr (slOk_keep z1 (fun k hk => by rw [hW3, tyB_set, tyB_set, tyB_set, tyB_set, tyB_set, tyB_set, tyB_set]; exact hk)))
  clear hW3 x0 x1 x2 x3 x4 x5 x6 xf xz HX3 HT3 HR2 HB2 HOR HX1 HA1 HBV HA
  have HCE : Hid (∀ LF LD w', StS n0 v0 s p r q P LF LD w.heap.size [.int .i64 kd, .int .i64 f, .int .i64 k, .int .i64 yk, .int .u64 yb, .slice a2 A2.length c2, .bool ft] a2 A2.length c2 A2 w' → (w'.cell? ⟨w.heap.size, 1, none⟩ = some (.int .i64 f) ∧ w'.cell? ⟨w.heap.size, 2, none⟩ = some (.int .i64 k)) ∧ (w'.cell? ⟨w.heap.size, 3, none⟩ = some (.int .i64 yk) ∧ w'.cell? ⟨w.heap.size, 4, none⟩ = some (.int .u64 yb)) ∧ w'.cell? ⟨w.heap.size, 5, none⟩ = some (.slice a2 A2.length c2)) := Lib.hid (fun LF LD w' h => by
    obtain ⟨x0, x1, x2, x3, x4, x5, x6, xf⟩ := blk7z h.bx
    exact ⟨⟨x1, x2⟩, ⟨x3, x4⟩, x5⟩)
  have HPA3 := Lib.hid HST.out.pa
  obtain ⟨x0, x1, x2, x3, x4, x5, x6, xf⟩ := blk7z HST.out.bx
  have xz := HST.out.bx.1
  go_wp2_with fail
  go_ret
  exact ⟨rfl, L, HST.out.pa, HST.out.da, HLI.out⟩
end
section
open Go.RowKit
set_option linter.unusedVariables false
set_option linter.unusedSimpArgs false
attribute [local go_sem] over_cell over_frozen
variable {w0 w w' w2 : World} {r s : Nat} {p q : PrV} {P : PrM} {L L' LF LD LX : List FrM} {m : FrM} {v0 : World} {n0 : Nat}
set_option maxRecDepth 100000 in
set_option maxHeartbeats 16000000 in
theorem lstep_6 (h : PAt n0 w s p P L) (hd : DAt v0 w r q L) (hv : v0.heap.size ≤ n0) (hP : ReadP v0 q P) (hS : SmallP P) (hL : LInv P L) (o : OpM) {a : Option Addr} {c : Nat} (ha : ReadR valE v0 (.slice a o.args.length c) o.args) (hk : o.kind = 6) : Calls Try.prog 25 #[fp s, rp r, aggOp o.kind o.f o.k o.v a o.args.length c o.fit] w (StepEnd n0 v0 s p r q P) := by
  have HPA := Lib.hid h
  have HDA := Lib.hid hd
  have HV := Lib.hid hv
  have HRP := Lib.hid hP
  have HS28 := Lib.hid hS
  have HLI := Lib.hid hL
  have HBV : Hid (Below v0.heap.size v0 w) := Lib.hid (by obtain ⟨_, z⟩ := hd; exact z.be)
  obtain ⟨kd, f, k, ⟨vk, vb⟩, A, ft⟩ := o
  simp only at hk ha
  subst hk
  have HA := Lib.hid ha
  obtain ⟨_, cA, eA, hA1, hA2⟩ := readR_len ha
  injection eA with eA1 eA2 eA3
  have hAc := cap_le hA2
  have nA : (A.length : Int) ≤ c := by omega
  have ncc : (c : Int) ≤ 9223372036854775807 := by omega
  clear h hd hv hP hS hL ha eA1 eA2 eA3 hA1 hA2 hAc
  unfold fp rp aggOp
  simp only
  go_enter Try.func25, Try.ntmps25
  go_upto_region 1 with fail
  refine wp_named ?_
  intro W hW
  have HX0 : Hid (Blk W w.heap.size [.int .i64 6, .int .i64 f, .int .i64 k, .int .i64 vk, .int .u64 vb, .slice a A.length c, .bool ft] ∧ tyB W w.heap.size = some OPT ∧ Below w.heap.size w W) := Lib.hid (by rw [hW]; exact ⟨blk_new _ _ _, tyB_new _ _ _, b_alloc (Below.refl _ _) _⟩)
  clear hW
  obtain ⟨x0, x1, x2, x3, x4, x5, x6, xf⟩ := blk7z HX0.out.1
  have xz := HX0.out.1.1
  go_upto_if 18 with fail
  go_cut [] from 19 to 22 (fun wx => ∃ (n1 : Nat), Hid (n1 = (A.take 10).length ∧ Blk wx w.heap.size [.int .i64 6, .int .i64 f, .int .i64 k, .int .i64 vk, .int .u64 vb, .slice a n1 c, .bool ft] ∧ tyB wx w.heap.size = some OPT ∧ Below w.heap.size w wx))
  case first =>
    by_cases h10 : (A.length : Int) > 10
    · have n10 : (10 : Int) ≤ c := by omega
      go_wp2_with fail
      go_meet
      case rel => exact ⟨10, Lib.hid ⟨by rw [List.length_take]; omega, blk_set HX0.out.1 5 (.slice a 10 c), by rw [tyB_set]; exact HX0.out.2.1, b_set HX0.out.2.2 (p := ⟨w.heap.size, 5, none⟩) (Nat.le_refl _) _⟩⟩
    · go_wp2_with fail
      go_meet
      case rel => exact ⟨A.length, Lib.hid ⟨by rw [List.length_take]; omega, HX0.out⟩⟩
  case rest =>
  obtain ⟨n1, hcut⟩ := hcut
  obtain ⟨A1, hA1⟩ : ∃ A1, A1 = A.take 10 := ⟨_, rfl⟩
  have hn1 := hcut.out.1
  rw [← hA1] at hn1
  have HA1 : Hid (ReadR valE v0 (.slice a A1.length c) A1 ∧ A1.length ≤ 10) := Lib.hid (by rw [hA1]; exact ⟨by rw [List.length_take]; exact (by have z := readR_take (n := min 10 A.length) HA.out (Nat.min_le_right _ _); rwa [← List.take_eq_take_min] at z), by rw [List.length_take]; omega⟩)
  subst hn1
  have HX1 : Hid (Blk wc w.heap.size [.int .i64 6, .int .i64 f, .int .i64 k, .int .i64 vk, .int .u64 vb, .slice a A1.length c, .bool ft] ∧ tyB wc w.heap.size = some OPT ∧ Below w.heap.size w wc) := Lib.hid hcut.out.2
  clear hcut hA1 x0 x1 x2 x3 x4 x5 x6 xf xz HX0
  obtain ⟨x0, x1, x2, x3, x4, x5, x6, xf⟩ := blk7z HX1.out.1
  have xz := HX1.out.1.1
  go_wp2_with fail
  refine (lfit_any (dat_below HDA.out HX1.out.2.2) HRP.out HS28.out HLI.out ⟨6, f, k, ⟨vk, vb⟩, A1, ft⟩ (readR_below HA1.out.1 (b_call HBV.out HX1.out.2.2))).mono ?_
  have HO2 := Lib.hid (And.intro (fitM_args (L := L) HS28.out ⟨6, f, k, ⟨vk, vb⟩, A1, ft⟩ HA1.out.2) (fitM_kind (P := P) (L := L) ⟨6, f, k, ⟨vk, vb⟩, A1, ft⟩))
  revert HO2
  generalize fitM P L ⟨6, f, k, ⟨vk, vb⟩, A1, ft⟩ = o2
  obtain ⟨kd2, f2, k2, ⟨yk, yb⟩, A2, ft2⟩ := o2
  intro HO2 e w3 hfe
  unfold FitEnd at hfe
  obtain ⟨a2, c2, rfl, hr2, hb2, hor⟩ := hfe
  obtain ⟨hl10, e1, e2, e3, e4⟩ := HO2.out
  simp only at hl10 e1 e2 e3 e4 hr2 hor
  replace e1 := e1.symm
  replace e2 := e2.symm
  replace e3 := e3.symm
  replace e4 := e4.symm
  subst e1 e2 e3 e4
  have HX3 := Lib.hid (blk_below HX1.out.1 hb2)
  have HT3 := Lib.hid (tyB_call HX1.out.2.1 hb2)
  have HR2 := Lib.hid hr2
  have HB2 := Lib.hid hb2
  have HOR := Lib.hid hor
  have HL10 := Lib.hid hl10
  clear hr2 hb2 hor HO2 x0 x1 x2 x3 x4 x5 x6 xf xz hl10
  obtain ⟨x0, x1, x2, x3, x4, x5, x6, xf⟩ := blk7z HX3.out
  have xz := HX3.out.1
  unfold aggOp
  simp only
  go_upto_region 4 with fail
  refine wp_named ?_
  intro W3 hW3
  have HST : Hid (StS n0 v0 s p r q P L L w.heap.size [.int .i64 6, .int .i64 f, .int .i64 k, .int .i64 yk, .int .u64 yb, .slice a2 A2.length c2, .bool ft] a2 A2.length c2 A2 W3) := Lib.hid (by
    have hg : w3.grownBy W3 (some w.heap.size) := by rw [hW3]; exact gb_set (gb_set (gb_set (gb_set (gb_set (gb_set (gb_set (gb_refl w3 (some w.heap.size)) 0 none (.int .i64 6)) 1 none (.int .i64 f)) 2 none (.int .i64 k)) 3 none (.int .i64 yk)) 4 none (.int .u64 yb)) 5 none (.slice a2 A2.length c2)) 6 none (.bool ft)
    have hbw : Below w.heap.size w W3 := b_grown (b_call HX1.out.2.2 HB2.out) hg (Nat.le_refl _)
    refine ⟨pat_below HPA.out hbw, dat_below HDA.out hbw, by rw [hW3]; exact blk_set (blk_set (blk_set (blk_set (blk_set (blk_set (blk_set (HX3.out) 0 (.int .i64 6)) 1 (.int .i64 f)) 2 (.int .i64 k)) 3 (.int .i64 yk)) 4 (.int .u64 yb)) 5 (.slice a2 A2.length c2)) 6 (.bool ft), by rw [hW3, tyB_set, tyB_set, tyB_set, tyB_set, tyB_set, tyB_set, tyB_set]; exact HT3.out, ?_, ?_⟩
    · rcases HOR.out with ⟨z1, z2, z3⟩ | ⟨z1, z2⟩
      · subst z1 z2 z3
        exact readR_below HA1.out.1 (b_call HBV.out hbw)
      · exact readR_grown HR2.out hg (Or.inr (fun e => by have := z2 _ e; have := HX1.out.1.1; omega))
    · rcases HOR.out with ⟨z1, z2, z3⟩ | ⟨z1, z2⟩
      · subst z1 z2 z3
        exact Or.inl HA1.out.1
      · exact Or.inr (slOk_keep z1 (fun k hk => by rw [hW3, tyB_set, tyB_set, tyB_set, tyB_set, tyB_set, tyB_set, tyB_set]; exact hk)))
  clear hW3 x0 x1 x2 x3 x4 x5 x6 xf xz HX3 HT3 HR2 HB2 HOR HX1 HA1 HBV HA
  have HCE : Hid (∀ LF LD w', StS n0 v0 s p r q P LF LD w.heap.size [.int .i64 6, .int .i64 f, .int .i64 k, .int .i64 yk, .int .u64 yb, .slice a2 A2.length c2, .bool ft] a2 A2.length c2 A2 w' → (w'.cell? ⟨w.heap.size, 1, none⟩ = some (.int .i64 f) ∧ w'.cell? ⟨w.heap.size, 2, none⟩ = some (.int .i64 k)) ∧ (w'.cell? ⟨w.heap.size, 3, none⟩ = some (.int .i64 yk) ∧ w'.cell? ⟨w.heap.size, 4, none⟩ = some (.int .u64 yb)) ∧ w'.cell? ⟨w.heap.size, 5, none⟩ = some (.slice a2 A2.length c2)) := Lib.hid (fun LF LD w' h => by
    obtain ⟨x0, x1, x2, x3, x4, x5, x6, xf⟩ := blk7z h.bx
    exact ⟨⟨x1, x2⟩, ⟨x3, x4⟩, x5⟩)
  have HPA3 := Lib.hid HST.out.pa
  obtain ⟨x0, x1, x2, x3, x4, x5, x6, xf⟩ := blk7z HST.out.bx
  have xz := HST.out.bx.1
  have HCF := Lib.hid (fun (w' : World) (h' : PAt n0 w' s p P L) => fset_all h' k (⟨yk, yb⟩ : ValM))
  have HCD := Lib.hid (fun (w' : World) (h' : DAt v0 w' r q L) => rset_all h' HS28.out HLI.out k (⟨yk, yb⟩ : ValM))
  have HXI := Lib.hid (set_inv HLI.out k (⟨yk, yb⟩ : ValM))
  revert HCF HCD HXI
  generalize setM L k (⟨yk, yb⟩ : ValM) = X
  obtain ⟨LX, xc⟩ := X
  intro HCF HCD HXI
  have hxx : (xc == xc) = true := by simp
  go_upto_region 21 with fail
  clear x0 x1 x2 x3 x4 x5 x6 xf xz
  refine wp_region_held_drew (S := fun w' => (w'.cell? ⟨w.heap.size, 1, none⟩ = some (.int .i64 f) ∧ w'.cell? ⟨w.heap.size, 2, none⟩ = some (.int .i64 k)) ∧ (w'.cell? ⟨w.heap.size, 3, none⟩ = some (.int .i64 yk) ∧ w'.cell? ⟨w.heap.size, 4, none⟩ = some (.int .u64 yb)) ∧ w'.cell? ⟨w.heap.size, 5, none⟩ = some (.slice a2 A2.length c2)) (by kernel_rfl) (HCE.out _ _ _ (st_below HST.out (b_drew (Below.refl _ _)))) (fun hHeld => ?_)
  refine atI 0 ?_
  iterate 5 (refine takeN (v := ?_) rfl (by rfl) ?_ hHeld ?_; rotate_left; (focus (intro w hSw; (try dsimp only at hSw); go_simp; try (with_reducible rfl))); (try simp only [Act.put, Nat.reduceAdd, List.getElem_toArray, List.getElem_cons_succ, List.getElem_cons_zero, List.setIfInBounds_toArray, List.set_cons_zero, List.set_cons_succ]))
  refine atIo ?_
  refine atI 7 ?_
  iterate 5 (refine takeN (v := ?_) rfl (by rfl) ?_ hHeld ?_; rotate_left; (focus (intro w hSw; (try dsimp only at hSw); go_simp; try (with_reducible rfl))); (try simp only [Act.put, Nat.reduceAdd, List.getElem_toArray, List.getElem_cons_succ, List.getElem_cons_zero, List.setIfInBounds_toArray, List.set_cons_zero, List.set_cons_succ]))
  refine atIo ?_
  refine wpAnyH_named ?_
  intro tz htz
  have HSTtz := Lib.hid (st_below HST.out (show Below W3.heap.size W3 tz by rw [htz]; exact b_drew (Below.refl _ _)))
  clear htz
  refine wpAnyH_ready (rs := [5]) (by kernel_rfl) (by simp) (AllReadyH.cons rfl (fun K hK => ?_) AllReadyH.nil)
  go_simp
  refine (lours28 yk yb _).mono ?_
  rintro e t6 ⟨rfl, hb7⟩
  have HSTt6 := Lib.hid (st_below HSTtz.out hb7)
  clear hb7
  refine hK.out _ _ (HCE.out _ _ _ HSTt6.out) (fun hHeld => ?_)
  clear hK K
  (try simp only [Act.put, List.getElem_toArray, List.getElem_cons_succ, List.getElem_cons_zero, List.setIfInBounds_toArray, List.set_cons_zero, List.set_cons_succ])
  refine wpAnyH_ready (rs := [6]) (by kernel_rfl) (by simp) (AllReadyH.cons rfl (fun K hK => ?_) AllReadyH.nil)
  go_simp
  refine (HCF.out _ HSTt6.out.pa).mono ?_
  rintro e t7 ⟨rfl, ht⟩
  have HSTt7 := Lib.hid (st_F HSTt6.out ht HV.out)
  clear ht
  refine hK.out _ _ (HCE.out _ _ _ HSTt7.out) (fun hHeld => ?_)
  clear hK K
  (try simp only [Act.put, List.getElem_toArray, List.getElem_cons_succ, List.getElem_cons_zero, List.setIfInBounds_toArray, List.set_cons_zero, List.set_cons_succ])
  refine wpAnyH_ready (rs := [12]) (by kernel_rfl) (by simp) (AllReadyH.cons rfl (fun K hK => ?_) AllReadyH.nil)
  go_simp
  refine (HCD.out _ HSTt7.out.da).mono ?_
  rintro e t8 ⟨rfl, ht⟩
  have HSTt8 := Lib.hid (st_D HSTt7.out ht)
  clear ht
  refine hK.out _ _ (HCE.out _ _ _ HSTt8.out) (fun hHeld => ?_)
  clear hK K
  (try simp only [Act.put, List.getElem_toArray, List.getElem_cons_succ, List.getElem_cons_zero, List.setIfInBounds_toArray, List.set_cons_zero, List.set_cons_succ])
  refine atI 13 ?_
  iterate 2 (refine takeN (v := ?_) rfl (by rfl) ?_ hHeld ?_; rotate_left; (focus (intro w hSw; (try dsimp only at hSw); go_simp; try (with_reducible rfl))); (try simp only [Act.put, Nat.reduceAdd, List.getElem_toArray, List.getElem_cons_succ, List.getElem_cons_zero, List.setIfInBounds_toArray, List.set_cons_zero, List.set_cons_succ]))
  refine atIo ?_
  refine wpAnyH_done (by kernel_rfl) ?_ _
  go_wp2_with fail
  go_ret
  exact ⟨rfl, LX, HSTt8.out.pa, HSTt8.out.da, HXI.out⟩
set_option maxRecDepth 100000 in
set_option maxHeartbeats 16000000 in
theorem lstep_2 (h : PAt n0 w s p P L) (hd : DAt v0 w r q L) (hv : v0.heap.size ≤ n0) (hP : ReadP v0 q P) (hS : SmallP P) (hL : LInv P L) (o : OpM) {a : Option Addr} {c : Nat} (ha : ReadR valE v0 (.slice a o.args.length c) o.args) (hk : o.kind = 2) : Calls Try.prog 25 #[fp s, rp r, aggOp o.kind o.f o.k o.v a o.args.length c o.fit] w (StepEnd n0 v0 s p r q P) := by
  have HPA := Lib.hid h
  have HDA := Lib.hid hd
  have HV := Lib.hid hv
  have HRP := Lib.hid hP
  have HS28 := Lib.hid hS
  have HLI := Lib.hid hL
  have HBV : Hid (Below v0.heap.size v0 w) := Lib.hid (by obtain ⟨_, z⟩ := hd; exact z.be)
  obtain ⟨kd, f, k, ⟨vk, vb⟩, A, ft⟩ := o
  simp only at hk ha
  subst hk
  have HA := Lib.hid ha
  obtain ⟨_, cA, eA, hA1, hA2⟩ := readR_len ha
  injection eA with eA1 eA2 eA3
  have hAc := cap_le hA2
  have nA : (A.length : Int) ≤ c := by omega
  have ncc : (c : Int) ≤ 9223372036854775807 := by omega
  clear h hd hv hP hS hL ha eA1 eA2 eA3 hA1 hA2 hAc
  unfold fp rp aggOp
  simp only
  go_enter Try.func25, Try.ntmps25
  go_upto_region 1 with fail
  refine wp_named ?_
  intro W hW
  have HX0 : Hid (Blk W w.heap.size [.int .i64 2, .int .i64 f, .int .i64 k, .int .i64 vk, .int .u64 vb, .slice a A.length c, .bool ft] ∧ tyB W w.heap.size = some OPT ∧ Below w.heap.size w W) := Lib.hid (by rw [hW]; exact ⟨blk_new _ _ _, tyB_new _ _ _, b_alloc (Below.refl _ _) _⟩)
  clear hW
  obtain ⟨x0, x1, x2, x3, x4, x5, x6, xf⟩ := blk7z HX0.out.1
  have xz := HX0.out.1.1
  go_upto_if 18 with fail
  go_cut [] from 19 to 22 (fun wx => ∃ (n1 : Nat), Hid (n1 = (A.take 10).length ∧ Blk wx w.heap.size [.int .i64 2, .int .i64 f, .int .i64 k, .int .i64 vk, .int .u64 vb, .slice a n1 c, .bool ft] ∧ tyB wx w.heap.size = some OPT ∧ Below w.heap.size w wx))
  case first =>
    by_cases h10 : (A.length : Int) > 10
    · have n10 : (10 : Int) ≤ c := by omega
      go_wp2_with fail
      go_meet
      case rel => exact ⟨10, Lib.hid ⟨by rw [List.length_take]; omega, blk_set HX0.out.1 5 (.slice a 10 c), by rw [tyB_set]; exact HX0.out.2.1, b_set HX0.out.2.2 (p := ⟨w.heap.size, 5, none⟩) (Nat.le_refl _) _⟩⟩
    · go_wp2_with fail
      go_meet
      case rel => exact ⟨A.length, Lib.hid ⟨by rw [List.length_take]; omega, HX0.out⟩⟩
  case rest =>
  obtain ⟨n1, hcut⟩ := hcut
  obtain ⟨A1, hA1⟩ : ∃ A1, A1 = A.take 10 := ⟨_, rfl⟩
  have hn1 := hcut.out.1
  rw [← hA1] at hn1
  have HA1 : Hid (ReadR valE v0 (.slice a A1.length c) A1 ∧ A1.length ≤ 10) := Lib.hid (by rw [hA1]; exact ⟨by rw [List.length_take]; exact (by have z := readR_take (n := min 10 A.length) HA.out (Nat.min_le_right _ _); rwa [← List.take_eq_take_min] at z), by rw [List.length_take]; omega⟩)
  subst hn1
  have HX1 : Hid (Blk wc w.heap.size [.int .i64 2, .int .i64 f, .int .i64 k, .int .i64 vk, .int .u64 vb, .slice a A1.length c, .bool ft] ∧ tyB wc w.heap.size = some OPT ∧ Below w.heap.size w wc) := Lib.hid hcut.out.2
  clear hcut hA1 x0 x1 x2 x3 x4 x5 x6 xf xz HX0
  obtain ⟨x0, x1, x2, x3, x4, x5, x6, xf⟩ := blk7z HX1.out.1
  have xz := HX1.out.1.1
  go_wp2_with fail
  refine (lfit_any (dat_below HDA.out HX1.out.2.2) HRP.out HS28.out HLI.out ⟨2, f, k, ⟨vk, vb⟩, A1, ft⟩ (readR_below HA1.out.1 (b_call HBV.out HX1.out.2.2))).mono ?_
  have HO2 := Lib.hid (And.intro (fitM_args (L := L) HS28.out ⟨2, f, k, ⟨vk, vb⟩, A1, ft⟩ HA1.out.2) (fitM_kind (P := P) (L := L) ⟨2, f, k, ⟨vk, vb⟩, A1, ft⟩))
  revert HO2
  generalize fitM P L ⟨2, f, k, ⟨vk, vb⟩, A1, ft⟩ = o2
  obtain ⟨kd2, f2, k2, ⟨yk, yb⟩, A2, ft2⟩ := o2
  intro HO2 e w3 hfe
  unfold FitEnd at hfe
  obtain ⟨a2, c2, rfl, hr2, hb2, hor⟩ := hfe
  obtain ⟨hl10, e1, e2, e3, e4⟩ := HO2.out
  simp only at hl10 e1 e2 e3 e4 hr2 hor
  replace e1 := e1.symm
  replace e2 := e2.symm
  replace e3 := e3.symm
  replace e4 := e4.symm
  subst e1 e2 e3 e4
  have HX3 := Lib.hid (blk_below HX1.out.1 hb2)
  have HT3 := Lib.hid (tyB_call HX1.out.2.1 hb2)
  have HR2 := Lib.hid hr2
  have HB2 := Lib.hid hb2
  have HOR := Lib.hid hor
  have HL10 := Lib.hid hl10
  clear hr2 hb2 hor HO2 x0 x1 x2 x3 x4 x5 x6 xf xz hl10
  obtain ⟨x0, x1, x2, x3, x4, x5, x6, xf⟩ := blk7z HX3.out
  have xz := HX3.out.1
  unfold aggOp
  simp only
  go_upto_region 4 with fail
  refine wp_named ?_
  intro W3 hW3
  have HST : Hid (StS n0 v0 s p r q P L L w.heap.size [.int .i64 2, .int .i64 f, .int .i64 k, .int .i64 yk, .int .u64 yb, .slice a2 A2.length c2, .bool ft] a2 A2.length c2 A2 W3) := Lib.hid (by
    have hg : w3.grownBy W3 (some w.heap.size) := by rw [hW3]; exact gb_set (gb_set (gb_set (gb_set (gb_set (gb_set (gb_set (gb_refl w3 (some w.heap.size)) 0 none (.int .i64 2)) 1 none (.int .i64 f)) 2 none (.int .i64 k)) 3 none (.int .i64 yk)) 4 none (.int .u64 yb)) 5 none (.slice a2 A2.length c2)) 6 none (.bool ft)
    have hbw : Below w.heap.size w W3 := b_grown (b_call HX1.out.2.2 HB2.out) hg (Nat.le_refl _)
    refine ⟨pat_below HPA.out hbw, dat_below HDA.out hbw, by rw [hW3]; exact blk_set (blk_set (blk_set (blk_set (blk_set (blk_set (blk_set (HX3.out) 0 (.int .i64 2)) 1 (.int .i64 f)) 2 (.int .i64 k)) 3 (.int .i64 yk)) 4 (.int .u64 yb)) 5 (.slice a2 A2.length c2)) 6 (.bool ft), by rw [hW3, tyB_set, tyB_set, tyB_set, tyB_set, tyB_set, tyB_set, tyB_set]; exact HT3.out, ?_, ?_⟩
    · rcases HOR.out with ⟨z1, z2, z3⟩ | ⟨z1, z2⟩
      · subst z1 z2 z3
        exact readR_below HA1.out.1 (b_call HBV.out hbw)
      · exact readR_grown HR2.out hg (Or.inr (fun e => by have := z2 _ e; have := HX1.out.1.1; omega))
    · rcases HOR.out with ⟨z1, z2, z3⟩ | ⟨z1, z2⟩
      · subst z1 z2 z3
        exact Or.inl HA1.out.1
      · exact Or.inr (slOk_keep z1 (fun k hk => by rw [hW3, tyB_set, tyB_set, tyB_set, tyB_set, tyB_set, tyB_set, tyB_set]; exact hk)))
  clear hW3 x0 x1 x2 x3 x4 x5 x6 xf xz HX3 HT3 HR2 HB2 HOR HX1 HA1 HBV HA
  have HCE : Hid (∀ LF LD w', StS n0 v0 s p r q P LF LD w.heap.size [.int .i64 2, .int .i64 f, .int .i64 k, .int .i64 yk, .int .u64 yb, .slice a2 A2.length c2, .bool ft] a2 A2.length c2 A2 w' → (w'.cell? ⟨w.heap.size, 1, none⟩ = some (.int .i64 f) ∧ w'.cell? ⟨w.heap.size, 2, none⟩ = some (.int .i64 k)) ∧ (w'.cell? ⟨w.heap.size, 3, none⟩ = some (.int .i64 yk) ∧ w'.cell? ⟨w.heap.size, 4, none⟩ = some (.int .u64 yb)) ∧ w'.cell? ⟨w.heap.size, 5, none⟩ = some (.slice a2 A2.length c2)) := Lib.hid (fun LF LD w' h => by
    obtain ⟨x0, x1, x2, x3, x4, x5, x6, xf⟩ := blk7z h.bx
    exact ⟨⟨x1, x2⟩, ⟨x3, x4⟩, x5⟩)
  have HPA3 := Lib.hid HST.out.pa
  obtain ⟨x0, x1, x2, x3, x4, x5, x6, xf⟩ := blk7z HST.out.bx
  have xz := HST.out.bx.1
  have HCF := Lib.hid (fun (w' : World) (h' : PAt n0 w' s p P L) => fpush_all h' HLI.out (⟨yk, yb⟩ : ValM))
  have HCD := Lib.hid (fun (w' : World) (h' : DAt v0 w' r q L) => rpush_all h' HLI.out (⟨yk, yb⟩ : ValM))
  have HXI := Lib.hid (push_inv HLI.out (⟨yk, yb⟩ : ValM))
  revert HCF HCD HXI
  generalize pushM L (⟨yk, yb⟩ : ValM) = X
  obtain ⟨LX, xc⟩ := X
  intro HCF HCD HXI
  have hxx : (xc == xc) = true := by simp
  go_upto_region 11 with fail
  clear x0 x1 x2 x3 x4 x5 x6 xf xz
  refine wp_region_held_drew (S := fun w' => (w'.cell? ⟨w.heap.size, 1, none⟩ = some (.int .i64 f) ∧ w'.cell? ⟨w.heap.size, 2, none⟩ = some (.int .i64 k)) ∧ (w'.cell? ⟨w.heap.size, 3, none⟩ = some (.int .i64 yk) ∧ w'.cell? ⟨w.heap.size, 4, none⟩ = some (.int .u64 yb)) ∧ w'.cell? ⟨w.heap.size, 5, none⟩ = some (.slice a2 A2.length c2)) (by kernel_rfl) (HCE.out _ _ _ (st_below HST.out (b_drew (Below.refl _ _)))) (fun hHeld => ?_)
  refine atI 0 ?_
  iterate 3 (refine takeN (v := ?_) rfl (by rfl) ?_ hHeld ?_; rotate_left; (focus (intro w hSw; (try dsimp only at hSw); go_simp; try (with_reducible rfl))); (try simp only [Act.put, Nat.reduceAdd, List.getElem_toArray, List.getElem_cons_succ, List.getElem_cons_zero, List.setIfInBounds_toArray, List.set_cons_zero, List.set_cons_succ]))
  refine atIo ?_
  refine atI 5 ?_
  iterate 3 (refine takeN (v := ?_) rfl (by rfl) ?_ hHeld ?_; rotate_left; (focus (intro w hSw; (try dsimp only at hSw); go_simp; try (with_reducible rfl))); (try simp only [Act.put, Nat.reduceAdd, List.getElem_toArray, List.getElem_cons_succ, List.getElem_cons_zero, List.setIfInBounds_toArray, List.set_cons_zero, List.set_cons_succ]))
  refine atIo ?_
  refine wpAnyH_named ?_
  intro tz htz
  have HSTtz := Lib.hid (st_below HST.out (show Below W3.heap.size W3 tz by rw [htz]; exact b_drew (Below.refl _ _)))
  clear htz
  refine wpAnyH_ready (rs := [3]) (by kernel_rfl) (by simp) (AllReadyH.cons rfl (fun K hK => ?_) AllReadyH.nil)
  go_simp
  refine (lours28 yk yb _).mono ?_
  rintro e t9 ⟨rfl, hb7⟩
  have HSTt9 := Lib.hid (st_below HSTtz.out hb7)
  clear hb7
  refine hK.out _ _ (HCE.out _ _ _ HSTt9.out) (fun hHeld => ?_)
  clear hK K
  (try simp only [Act.put, List.getElem_toArray, List.getElem_cons_succ, List.getElem_cons_zero, List.setIfInBounds_toArray, List.set_cons_zero, List.set_cons_succ])
  refine wpAnyH_ready (rs := [4]) (by kernel_rfl) (by simp) (AllReadyH.cons rfl (fun K hK => ?_) AllReadyH.nil)
  go_simp
  refine (HCF.out _ HSTt9.out.pa).mono ?_
  rintro e t10 ⟨rfl, ht⟩
  have HSTt10 := Lib.hid (st_F HSTt9.out ht HV.out)
  clear ht
  refine hK.out _ _ (HCE.out _ _ _ HSTt10.out) (fun hHeld => ?_)
  clear hK K
  (try simp only [Act.put, List.getElem_toArray, List.getElem_cons_succ, List.getElem_cons_zero, List.setIfInBounds_toArray, List.set_cons_zero, List.set_cons_succ])
  refine wpAnyH_ready (rs := [8]) (by kernel_rfl) (by simp) (AllReadyH.cons rfl (fun K hK => ?_) AllReadyH.nil)
  go_simp
  refine (HCD.out _ HSTt10.out.da).mono ?_
  rintro e t11 ⟨rfl, ht⟩
  have HSTt11 := Lib.hid (st_D HSTt10.out ht)
  clear ht
  refine hK.out _ _ (HCE.out _ _ _ HSTt11.out) (fun hHeld => ?_)
  clear hK K
  (try simp only [Act.put, List.getElem_toArray, List.getElem_cons_succ, List.getElem_cons_zero, List.setIfInBounds_toArray, List.set_cons_zero, List.set_cons_succ])
  refine atI 9 ?_
  iterate 2 (refine takeN (v := ?_) rfl (by rfl) ?_ hHeld ?_; rotate_left; (focus (intro w hSw; (try dsimp only at hSw); go_simp; try (with_reducible rfl))); (try simp only [Act.put, Nat.reduceAdd, List.getElem_toArray, List.getElem_cons_succ, List.getElem_cons_zero, List.setIfInBounds_toArray, List.set_cons_zero, List.set_cons_succ]))
  refine atIo ?_
  refine wpAnyH_done (by kernel_rfl) ?_ _
  go_wp2_with fail
  go_ret
  exact ⟨rfl, LX, HSTt11.out.pa, HSTt11.out.da, HXI.out⟩
set_option maxRecDepth 100000 in
set_option maxHeartbeats 16000000 in
theorem lstep_3 (h : PAt n0 w s p P L) (hd : DAt v0 w r q L) (hv : v0.heap.size ≤ n0) (hP : ReadP v0 q P) (hS : SmallP P) (hL : LInv P L) (o : OpM) {a : Option Addr} {c : Nat} (ha : ReadR valE v0 (.slice a o.args.length c) o.args) (hk : o.kind = 3) : Calls Try.prog 25 #[fp s, rp r, aggOp o.kind o.f o.k o.v a o.args.length c o.fit] w (StepEnd n0 v0 s p r q P) := by
  have HPA := Lib.hid h
  have HDA := Lib.hid hd
  have HV := Lib.hid hv
  have HRP := Lib.hid hP
  have HS28 := Lib.hid hS
  have HLI := Lib.hid hL
  have HBV : Hid (Below v0.heap.size v0 w) := Lib.hid (by obtain ⟨_, z⟩ := hd; exact z.be)
  obtain ⟨kd, f, k, ⟨vk, vb⟩, A, ft⟩ := o
  simp only at hk ha
  subst hk
  have HA := Lib.hid ha
  obtain ⟨_, cA, eA, hA1, hA2⟩ := readR_len ha
  injection eA with eA1 eA2 eA3
  have hAc := cap_le hA2
  have nA : (A.length : Int) ≤ c := by omega
  have ncc : (c : Int) ≤ 9223372036854775807 := by omega
  clear h hd hv hP hS hL ha eA1 eA2 eA3 hA1 hA2 hAc
  unfold fp rp aggOp
  simp only
  go_enter Try.func25, Try.ntmps25
  go_upto_region 1 with fail
  refine wp_named ?_
  intro W hW
  have HX0 : Hid (Blk W w.heap.size [.int .i64 3, .int .i64 f, .int .i64 k, .int .i64 vk, .int .u64 vb, .slice a A.length c, .bool ft] ∧ tyB W w.heap.size = some OPT ∧ Below w.heap.size w W) := Lib.hid (by rw [hW]; exact ⟨blk_new _ _ _, tyB_new _ _ _, b_alloc (Below.refl _ _) _⟩)
  clear hW
  obtain ⟨x0, x1, x2, x3, x4, x5, x6, xf⟩ := blk7z HX0.out.1
  have xz := HX0.out.1.1
  go_upto_if 18 with fail
  go_cut [] from 19 to 22 (fun wx => ∃ (n1 : Nat), Hid (n1 = (A.take 10).length ∧ Blk wx w.heap.size [.int .i64 3, .int .i64 f, .int .i64 k, .int .i64 vk, .int .u64 vb, .slice a n1 c, .bool ft] ∧ tyB wx w.heap.size = some OPT ∧ Below w.heap.size w wx))
  case first =>
    by_cases h10 : (A.length : Int) > 10
    · have n10 : (10 : Int) ≤ c := by omega
      go_wp2_with fail
      go_meet
      case rel => exact ⟨10, Lib.hid ⟨by rw [List.length_take]; omega, blk_set HX0.out.1 5 (.slice a 10 c), by rw [tyB_set]; exact HX0.out.2.1, b_set HX0.out.2.2 (p := ⟨w.heap.size, 5, none⟩) (Nat.le_refl _) _⟩⟩
    · go_wp2_with fail
      go_meet
      case rel => exact ⟨A.length, Lib.hid ⟨by rw [List.length_take]; omega, HX0.out⟩⟩
  case rest =>
  obtain ⟨n1, hcut⟩ := hcut
  obtain ⟨A1, hA1⟩ : ∃ A1, A1 = A.take 10 := ⟨_, rfl⟩
  have hn1 := hcut.out.1
  rw [← hA1] at hn1
  have HA1 : Hid (ReadR valE v0 (.slice a A1.length c) A1 ∧ A1.length ≤ 10) := Lib.hid (by rw [hA1]; exact ⟨by rw [List.length_take]; exact (by have z := readR_take (n := min 10 A.length) HA.out (Nat.min_le_right _ _); rwa [← List.take_eq_take_min] at z), by rw [List.length_take]; omega⟩)
  subst hn1
  have HX1 : Hid (Blk wc w.heap.size [.int .i64 3, .int .i64 f, .int .i64 k, .int .i64 vk, .int .u64 vb, .slice a A1.length c, .bool ft] ∧ tyB wc w.heap.size = some OPT ∧ Below w.heap.size w wc) := Lib.hid hcut.out.2
  clear hcut hA1 x0 x1 x2 x3 x4 x5 x6 xf xz HX0
  obtain ⟨x0, x1, x2, x3, x4, x5, x6, xf⟩ := blk7z HX1.out.1
  have xz := HX1.out.1.1
  go_wp2_with fail
  refine (lfit_any (dat_below HDA.out HX1.out.2.2) HRP.out HS28.out HLI.out ⟨3, f, k, ⟨vk, vb⟩, A1, ft⟩ (readR_below HA1.out.1 (b_call HBV.out HX1.out.2.2))).mono ?_
  have HO2 := Lib.hid (And.intro (fitM_args (L := L) HS28.out ⟨3, f, k, ⟨vk, vb⟩, A1, ft⟩ HA1.out.2) (fitM_kind (P := P) (L := L) ⟨3, f, k, ⟨vk, vb⟩, A1, ft⟩))
  revert HO2
  generalize fitM P L ⟨3, f, k, ⟨vk, vb⟩, A1, ft⟩ = o2
  obtain ⟨kd2, f2, k2, ⟨yk, yb⟩, A2, ft2⟩ := o2
  intro HO2 e w3 hfe
  unfold FitEnd at hfe
  obtain ⟨a2, c2, rfl, hr2, hb2, hor⟩ := hfe
  obtain ⟨hl10, e1, e2, e3, e4⟩ := HO2.out
  simp only at hl10 e1 e2 e3 e4 hr2 hor
  replace e1 := e1.symm
  replace e2 := e2.symm
  replace e3 := e3.symm
  replace e4 := e4.symm
  subst e1 e2 e3 e4
  have HX3 := Lib.hid (blk_below HX1.out.1 hb2)
  have HT3 := Lib.hid (tyB_call HX1.out.2.1 hb2)
  have HR2 := Lib.hid hr2
  have HB2 := Lib.hid hb2
  have HOR := Lib.hid hor
  have HL10 := Lib.hid hl10
  clear hr2 hb2 hor HO2 x0 x1 x2 x3 x4 x5 x6 xf xz hl10
  obtain ⟨x0, x1, x2, x3, x4, x5, x6, xf⟩ := blk7z HX3.out
  have xz := HX3.out.1
  unfold aggOp
  simp only
  go_upto_region 4 with fail
  refine wp_named ?_
  intro W3 hW3
  have HST : Hid (StS n0 v0 s p r q P L L w.heap.size [.int .i64 3, .int .i64 f, .int .i64 k, .int .i64 yk, .int .u64 yb, .slice a2 A2.length c2, .bool ft] a2 A2.length c2 A2 W3) := Lib.hid (by
    have hg : w3.grownBy W3 (some w.heap.size) := by rw [hW3]; exact gb_set (gb_set (gb_set (gb_set (gb_set (gb_set (gb_set (gb_refl w3 (some w.heap.size)) 0 none (.int .i64 3)) 1 none (.int .i64 f)) 2 none (.int .i64 k)) 3 none (.int .i64 yk)) 4 none (.int .u64 yb)) 5 none (.slice a2 A2.length c2)) 6 none (.bool ft)
    have hbw : Below w.heap.size w W3 := b_grown (b_call HX1.out.2.2 HB2.out) hg (Nat.le_refl _)
    refine ⟨pat_below HPA.out hbw, dat_below HDA.out hbw, by rw [hW3]; exact blk_set (blk_set (blk_set (blk_set (blk_set (blk_set (blk_set (HX3.out) 0 (.int .i64 3)) 1 (.int .i64 f)) 2 (.int .i64 k)) 3 (.int .i64 yk)) 4 (.int .u64 yb)) 5 (.slice a2 A2.length c2)) 6 (.bool ft), by rw [hW3, tyB_set, tyB_set, tyB_set, tyB_set, tyB_set, tyB_set, tyB_set]; exact HT3.out, ?_, ?_⟩
    · rcases HOR.out with ⟨z1, z2, z3⟩ | ⟨z1, z2⟩
      · subst z1 z2 z3
        exact readR_below HA1.out.1 (b_call HBV.out hbw)
      · exact readR_grown HR2.out hg (Or.inr (fun e => by have := z2 _ e; have := HX1.out.1.1; omega))
    · rcases HOR.out with ⟨z1, z2, z3⟩ | ⟨z1, z2⟩
      · subst z1 z2 z3
        exact Or.inl HA1.out.1
      · exact Or.inr (slOk_keep z1 (fun k hk => by rw [hW3, tyB_set, tyB_set, tyB_set, tyB_set, tyB_set, tyB_set, tyB_set]; exact hk)))
  clear hW3 x0 x1 x2 x3 x4 x5 x6 xf xz HX3 HT3 HR2 HB2 HOR HX1 HA1 HBV HA
  have HCE : Hid (∀ LF LD w', StS n0 v0 s p r q P LF LD w.heap.size [.int .i64 3, .int .i64 f, .int .i64 k, .int .i64 yk, .int .u64 yb, .slice a2 A2.length c2, .bool ft] a2 A2.length c2 A2 w' → (w'.cell? ⟨w.heap.size, 1, none⟩ = some (.int .i64 f) ∧ w'.cell? ⟨w.heap.size, 2, none⟩ = some (.int .i64 k)) ∧ (w'.cell? ⟨w.heap.size, 3, none⟩ = some (.int .i64 yk) ∧ w'.cell? ⟨w.heap.size, 4, none⟩ = some (.int .u64 yb)) ∧ w'.cell? ⟨w.heap.size, 5, none⟩ = some (.slice a2 A2.length c2)) := Lib.hid (fun LF LD w' h => by
    obtain ⟨x0, x1, x2, x3, x4, x5, x6, xf⟩ := blk7z h.bx
    exact ⟨⟨x1, x2⟩, ⟨x3, x4⟩, x5⟩)
  have HPA3 := Lib.hid HST.out.pa
  obtain ⟨x0, x1, x2, x3, x4, x5, x6, xf⟩ := blk7z HST.out.bx
  have xz := HST.out.bx.1
  have HCF := Lib.hid (fun (w' : World) (h' : PAt n0 w' s p P L) => fpush_all h' HLI.out (⟨yk, yb⟩ : ValM))
  have HCD := Lib.hid (fun (w' : World) (h' : DAt v0 w' r q L) => rpush_all h' HLI.out (⟨yk, yb⟩ : ValM))
  have HXI := Lib.hid (push_inv HLI.out (⟨yk, yb⟩ : ValM))
  revert HCF HCD HXI
  generalize pushM L (⟨yk, yb⟩ : ValM) = X
  obtain ⟨LX, xc⟩ := X
  intro HCF HCD HXI
  have hxx : (xc == xc) = true := by simp
  go_upto_region 11 with fail
  clear x0 x1 x2 x3 x4 x5 x6 xf xz
  refine wp_region_held_drew (S := fun w' => (w'.cell? ⟨w.heap.size, 1, none⟩ = some (.int .i64 f) ∧ w'.cell? ⟨w.heap.size, 2, none⟩ = some (.int .i64 k)) ∧ (w'.cell? ⟨w.heap.size, 3, none⟩ = some (.int .i64 yk) ∧ w'.cell? ⟨w.heap.size, 4, none⟩ = some (.int .u64 yb)) ∧ w'.cell? ⟨w.heap.size, 5, none⟩ = some (.slice a2 A2.length c2)) (by kernel_rfl) (HCE.out _ _ _ (st_below HST.out (b_drew (Below.refl _ _)))) (fun hHeld => ?_)
  refine atI 0 ?_
  iterate 3 (refine takeN (v := ?_) rfl (by rfl) ?_ hHeld ?_; rotate_left; (focus (intro w hSw; (try dsimp only at hSw); go_simp; try (with_reducible rfl))); (try simp only [Act.put, Nat.reduceAdd, List.getElem_toArray, List.getElem_cons_succ, List.getElem_cons_zero, List.setIfInBounds_toArray, List.set_cons_zero, List.set_cons_succ]))
  refine atIo ?_
  refine atI 5 ?_
  iterate 3 (refine takeN (v := ?_) rfl (by rfl) ?_ hHeld ?_; rotate_left; (focus (intro w hSw; (try dsimp only at hSw); go_simp; try (with_reducible rfl))); (try simp only [Act.put, Nat.reduceAdd, List.getElem_toArray, List.getElem_cons_succ, List.getElem_cons_zero, List.setIfInBounds_toArray, List.set_cons_zero, List.set_cons_succ]))
  refine atIo ?_
  refine wpAnyH_named ?_
  intro tz htz
  have HSTtz := Lib.hid (st_below HST.out (show Below W3.heap.size W3 tz by rw [htz]; exact b_drew (Below.refl _ _)))
  clear htz
  refine wpAnyH_ready (rs := [3]) (by kernel_rfl) (by simp) (AllReadyH.cons rfl (fun K hK => ?_) AllReadyH.nil)
  go_simp
  refine (lours28 yk yb _).mono ?_
  rintro e t12 ⟨rfl, hb7⟩
  have HSTt12 := Lib.hid (st_below HSTtz.out hb7)
  clear hb7
  refine hK.out _ _ (HCE.out _ _ _ HSTt12.out) (fun hHeld => ?_)
  clear hK K
  (try simp only [Act.put, List.getElem_toArray, List.getElem_cons_succ, List.getElem_cons_zero, List.setIfInBounds_toArray, List.set_cons_zero, List.set_cons_succ])
  refine wpAnyH_ready (rs := [4]) (by kernel_rfl) (by simp) (AllReadyH.cons rfl (fun K hK => ?_) AllReadyH.nil)
  go_simp
  refine (HCF.out _ HSTt12.out.pa).mono ?_
  rintro e t13 ⟨rfl, ht⟩
  have HSTt13 := Lib.hid (st_F HSTt12.out ht HV.out)
  clear ht
  refine hK.out _ _ (HCE.out _ _ _ HSTt13.out) (fun hHeld => ?_)
  clear hK K
  (try simp only [Act.put, List.getElem_toArray, List.getElem_cons_succ, List.getElem_cons_zero, List.setIfInBounds_toArray, List.set_cons_zero, List.set_cons_succ])
  refine wpAnyH_ready (rs := [8]) (by kernel_rfl) (by simp) (AllReadyH.cons rfl (fun K hK => ?_) AllReadyH.nil)
  go_simp
  refine (HCD.out _ HSTt13.out.da).mono ?_
  rintro e t14 ⟨rfl, ht⟩
  have HSTt14 := Lib.hid (st_D HSTt13.out ht)
  clear ht
  refine hK.out _ _ (HCE.out _ _ _ HSTt14.out) (fun hHeld => ?_)
  clear hK K
  (try simp only [Act.put, List.getElem_toArray, List.getElem_cons_succ, List.getElem_cons_zero, List.setIfInBounds_toArray, List.set_cons_zero, List.set_cons_succ])
  refine atI 9 ?_
  iterate 2 (refine takeN (v := ?_) rfl (by rfl) ?_ hHeld ?_; rotate_left; (focus (intro w hSw; (try dsimp only at hSw); go_simp; try (with_reducible rfl))); (try simp only [Act.put, Nat.reduceAdd, List.getElem_toArray, List.getElem_cons_succ, List.getElem_cons_zero, List.setIfInBounds_toArray, List.set_cons_zero, List.set_cons_succ]))
  refine atIo ?_
  refine wpAnyH_done (by kernel_rfl) ?_ _
  go_wp2_with fail
  go_ret
  exact ⟨rfl, LX, HSTt14.out.pa, HSTt14.out.da, HXI.out⟩
end
end Go.Proofs.Ytdmidnmciaediaa
