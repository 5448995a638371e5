/- Layer 28: the law's step: what both stand on. Conditions: those stated. Layer 28: the law's step with a Call. Conditions: those stated. -/
import Derived.Test.YtdmidnmciaediaaWFrI
import Derived.Deep.DeepCutAuto
import Derived.BigQuiet
namespace Go.Proofs.Ytdmidnmciaediaa
section
open Go.RowKit
set_option linter.unusedVariables false
set_option linter.unusedSimpArgs false
attribute [local go_sem] over_cell over_frozen
variable {w0 w w' w2 : World} {r s : Nat} {p q : PrV} {P : PrM} {L L' LF LD LX : List FrM} {m : FrM} {v0 : World} {n0 : Nat}
def OPT : TypeId := 57
/-- Both stand, and the call's box and its arguments. -/
structure StS (n0 : Nat) (v0 : World) (s : Nat) (p : PrV) (r : Nat) (q : PrV) (P : PrM) (LF LD : List FrM) (B : Nat) (cs : List Value) (a : Option Addr) (n c : Nat) (A : List ValM) (w : World) : Prop where
  pa : PAt n0 w s p P LF
  da : DAt v0 w r q LD
  bx : Blk w B cs
  ty : tyB w B = some OPT
  ar : ReadR valE w (.slice a n c) A
  at_ : ReadR valE v0 (.slice a n c) A ∨ slOk w VRT a n
variable {B : Nat} {cs : List Value} {a : Option Addr} {n c : Nat} {A : List ValM}
theorem st_below (h : StS n0 v0 s p r q P LF LD B cs a n c A w) (hb : Below w.heap.size w w') : StS n0 v0 s p r q P LF LD B cs a n c A w' :=
  ⟨pat_below h.pa hb, dat_below h.da hb, blk_below h.bx hb, tyB_call h.ty hb, readR_below h.ar hb, h.at_.imp id (fun z => slOk_keep z (fun k hk => tyB_call hk hb))⟩
theorem grT_ne {k : Nat} {T : TypeId} (hk : tyB w k = some T) (h1 : T ≠ FRST) (h2 : T ≠ FPTT) (h3 : T ≠ FRMT) (h4 : T ≠ VALT) : ¬ FrTy w k := fun hf => by
  unfold FrTy at hf
  rw [hk] at hf
  rcases hf with e | e | e | e <;> (injection e with e; first | exact h1 e | exact h2 e | exact h3 e | exact h4 e)
theorem st_F (h : StS n0 v0 s p r q P LF LD B cs a n c A w) (ht : FTurn n0 s p P LX w w') (hv : v0.heap.size ≤ n0) : StS n0 v0 s p r q P LX LD B cs a n c A w' := by
  obtain ⟨lv, hd⟩ := h.da
  have hB := grT_ne h.ty (by decide) (by decide) (by decide) (by decide)
  have hk : ∀ k, tyB w k = some VRT → w'.heap[k]? = w.heap[k]? := fun k hk => ht.2.1.block k (tyB_lt hk) (grT_ne hk (by decide) (by decide) (by decide) (by decide))
  refine ⟨ht.1, dat_turn h.da ht hv, blk_gx h.bx ht.2.1 hB, tyB_gx h.ty ht.2.1 hB, ?_, h.at_.imp id (fun z => slOk_keep z (fun k q => by rw [tyB_block (hk k q)]; exact q))⟩
  rcases h.at_ with z | z
  · exact readR_below z (ht.2.2 v0 hv hd.be)
  · exact readR_apart h.ar z ht.2.1.size hk
theorem st_D (h : StS n0 v0 s p r q P LF LD B cs a n c A w) (ht : DTurn v0 r q LX w w') : StS n0 v0 s p r q P LF LX B cs a n c A w' := by
  obtain ⟨lv, hd⟩ := h.da
  obtain ⟨lv', hd'⟩ := ht.1
  have hne : ∀ k T, tyB w k = some T → T ≠ RFS → ¬ (k = r) := fun k T hk hT e => by subst e; rw [hd.ty] at hk; injection hk with hk; exact hT hk.symm
  have hB := hne B OPT h.ty (by decide)
  have hk : ∀ k, tyB w k = some VRT → w'.heap[k]? = w.heap[k]? := fun k hk => ht.2.block k (tyB_lt hk) (hne k VRT hk (by decide))
  refine ⟨pat_turn h.pa h.da ht, ht.1, blk_gx h.bx ht.2 hB, tyB_gx h.ty ht.2 hB, ?_, h.at_.imp id (fun z => slOk_keep z (fun k q => by rw [tyB_block (hk k q)]; exact q))⟩
  rcases h.at_ with z | z
  · exact readR_below z hd'.be
  · exact readR_apart h.ar z ht.2.size hk
def StepEnd (n0 : Nat) (v0 : World) (s : Nat) (p : PrV) (r : Nat) (q : PrV) (P : PrM) (e : Ending) (w' : World) : Prop := e = .returned (.bool true) ∧ ∃ L', PAt n0 w' s p P L' ∧ DAt v0 w' r q L' ∧ LInv P L'
end
section
open Go.RowKit
set_option linter.unusedVariables false
set_option linter.unusedSimpArgs false
attribute [local go_sem] over_cell over_frozen
variable {w0 w w' w2 : World} {r s : Nat} {p q : PrV} {P : PrM} {L L' LF LD LX : List FrM} {m : FrM} {v0 : World} {n0 : Nat}
set_option maxRecDepth 100000 in
set_option maxHeartbeats 16000000 in
theorem lstep_0 (h : PAt n0 w s p P L) (hd : DAt v0 w r q L) (hv : v0.heap.size ≤ n0) (hP : ReadP v0 q P) (hS : SmallP P) (hL : LInv P L) (o : OpM) {a : Option Addr} {c : Nat} (ha : ReadR valE v0 (.slice a o.args.length c) o.args) (hk : o.kind = 0) : Calls Try.prog 25 #[fp s, rp r, aggOp o.kind o.f o.k o.v a o.args.length c o.fit] w (StepEnd n0 v0 s p r q P) := by
  have HPA := Lib.hid h
  have HDA := Lib.hid hd
  have HV := Lib.hid hv
  have HRP := Lib.hid hP
  have HS28 := Lib.hid hS
  have HLI := Lib.hid hL
  have HBV : Hid (Below v0.heap.size v0 w) := Lib.hid (by obtain ⟨_, z⟩ := hd; exact z.be)
  obtain ⟨kd, f, k, ⟨vk, vb⟩, A, ft⟩ := o
  simp only at hk ha
  subst hk
  have HA := Lib.hid ha
  obtain ⟨_, cA, eA, hA1, hA2⟩ := readR_len ha
  injection eA with eA1 eA2 eA3
  have hAc := cap_le hA2
  have nA : (A.length : Int) ≤ c := by omega
  have ncc : (c : Int) ≤ 9223372036854775807 := by omega
  clear h hd hv hP hS hL ha eA1 eA2 eA3 hA1 hA2 hAc
  unfold fp rp aggOp
  simp only
  go_enter Try.func25, Try.ntmps25
  go_upto_region 1 with fail
  refine wp_named ?_
  intro W hW
  have HX0 : Hid (Blk W w.heap.size [.int .i64 0, .int .i64 f, .int .i64 k, .int .i64 vk, .int .u64 vb, .slice a A.length c, .bool ft] ∧ tyB W w.heap.size = some OPT ∧ Below w.heap.size w W) := Lib.hid (by rw [hW]; exact ⟨blk_new _ _ _, tyB_new _ _ _, b_alloc (Below.refl _ _) _⟩)
  clear hW
  obtain ⟨x0, x1, x2, x3, x4, x5, x6, xf⟩ := blk7z HX0.out.1
  have xz := HX0.out.1.1
  go_upto_if 18 with fail
  go_cut [] from 19 to 22 (fun wx => ∃ (n1 : Nat), Hid (n1 = (A.take 10).length ∧ Blk wx w.heap.size [.int .i64 0, .int .i64 f, .int .i64 k, .int .i64 vk, .int .u64 vb, .slice a n1 c, .bool ft] ∧ tyB wx w.heap.size = some OPT ∧ Below w.heap.size w wx))
  case first =>
    by_cases h10 : (A.length : Int) > 10
    · have n10 : (10 : Int) ≤ c := by omega
      go_wp2_with fail
      go_meet
      case rel => exact ⟨10, Lib.hid ⟨by rw [List.length_take]; omega, blk_set HX0.out.1 5 (.slice a 10 c), by rw [tyB_set]; exact HX0.out.2.1, b_set HX0.out.2.2 (p := ⟨w.heap.size, 5, none⟩) (Nat.le_refl _) _⟩⟩
    · go_wp2_with fail
      go_meet
      case rel => exact ⟨A.length, Lib.hid ⟨by rw [List.length_take]; omega, HX0.out⟩⟩
  case rest =>
  obtain ⟨n1, hcut⟩ := hcut
  obtain ⟨A1, hA1⟩ : ∃ A1, A1 = A.take 10 := ⟨_, rfl⟩
  have hn1 := hcut.out.1
  rw [← hA1] at hn1
  have HA1 : Hid (ReadR valE v0 (.slice a A1.length c) A1 ∧ A1.length ≤ 10) := Lib.hid (by rw [hA1]; exact ⟨by rw [List.length_take]; exact (by have z := readR_take (n := min 10 A.length) HA.out (Nat.min_le_right _ _); rwa [← List.take_eq_take_min] at z), by rw [List.length_take]; omega⟩)
  subst hn1
  have HX1 : Hid (Blk wc w.heap.size [.int .i64 0, .int .i64 f, .int .i64 k, .int .i64 vk, .int .u64 vb, .slice a A1.length c, .bool ft] ∧ tyB wc w.heap.size = some OPT ∧ Below w.heap.size w wc) := Lib.hid hcut.out.2
  clear hcut hA1 x0 x1 x2 x3 x4 x5 x6 xf xz HX0
  obtain ⟨x0, x1, x2, x3, x4, x5, x6, xf⟩ := blk7z HX1.out.1
  have xz := HX1.out.1.1
  go_wp2_with fail
  refine (lfit_any (dat_below HDA.out HX1.out.2.2) HRP.out HS28.out HLI.out ⟨0, f, k, ⟨vk, vb⟩, A1, ft⟩ (readR_below HA1.out.1 (b_call HBV.out HX1.out.2.2))).mono ?_
  have HO2 := Lib.hid (And.intro (fitM_args (L := L) HS28.out ⟨0, f, k, ⟨vk, vb⟩, A1, ft⟩ HA1.out.2) (fitM_kind (P := P) (L := L) ⟨0, f, k, ⟨vk, vb⟩, A1, ft⟩))
  revert HO2
  generalize fitM P L ⟨0, f, k, ⟨vk, vb⟩, A1, ft⟩ = o2
  obtain ⟨kd2, f2, k2, ⟨yk, yb⟩, A2, ft2⟩ := o2
  intro HO2 e w3 hfe
  unfold FitEnd at hfe
  obtain ⟨a2, c2, rfl, hr2, hb2, hor⟩ := hfe
  obtain ⟨hl10, e1, e2, e3, e4⟩ := HO2.out
  simp only at hl10 e1 e2 e3 e4 hr2 hor
  replace e1 := e1.symm
  replace e2 := e2.symm
  replace e3 := e3.symm
  replace e4 := e4.symm
  subst e1 e2 e3 e4
  have HX3 := Lib.hid (blk_below HX1.out.1 hb2)
  have HT3 := Lib.hid (tyB_call HX1.out.2.1 hb2)
  have HR2 := Lib.hid hr2
  have HB2 := Lib.hid hb2
  have HOR := Lib.hid hor
  have HL10 := Lib.hid hl10
  clear hr2 hb2 hor HO2 x0 x1 x2 x3 x4 x5 x6 xf xz hl10
  obtain ⟨x0, x1, x2, x3, x4, x5, x6, xf⟩ := blk7z HX3.out
  have xz := HX3.out.1
  unfold aggOp
  simp only
  go_upto_region 4 with fail
  refine wp_named ?_
  intro W3 hW3
  have HST : Hid (StS n0 v0 s p r q P L L w.heap.size [.int .i64 0, .int .i64 f, .int .i64 k, .int .i64 yk, .int .u64 yb, .slice a2 A2.length c2, .bool ft] a2 A2.length c2 A2 W3) := Lib.hid (by
    have hg : w3.grownBy W3 (some w.heap.size) := by rw [hW3]; exact gb_set (gb_set (gb_set (gb_set (gb_set (gb_set (gb_set (gb_refl w3 (some w.heap.size)) 0 none (.int .i64 0)) 1 none (.int .i64 f)) 2 none (.int .i64 k)) 3 none (.int .i64 yk)) 4 none (.int .u64 yb)) 5 none (.slice a2 A2.length c2)) 6 none (.bool ft)
    have hbw : Below w.heap.size w W3 := b_grown (b_call HX1.out.2.2 HB2.out) hg (Nat.le_refl _)
    refine ⟨pat_below HPA.out hbw, dat_below HDA.out hbw, by rw [hW3]; exact blk_set (blk_set (blk_set (blk_set (blk_set (blk_set (blk_set (HX3.out) 0 (.int .i64 0)) 1 (.int .i64 f)) 2 (.int .i64 k)) 3 (.int .i64 yk)) 4 (.int .u64 yb)) 5 (.slice a2 A2.length c2)) 6 (.bool ft), by rw [hW3, tyB_set, tyB_set, tyB_set, tyB_set, tyB_set, tyB_set, tyB_set]; exact HT3.out, ?_, ?_⟩
    · rcases HOR.out with ⟨z1, z2, z3⟩ | ⟨z1, z2⟩
      · subst z1 z2 z3
        exact readR_below HA1.out.1 (b_call HBV.out hbw)
      · exact readR_grown HR2.out hg (Or.inr (fun e => by have := z2 _ e; have := HX1.out.1.1; omega))
    · rcases HOR.out with ⟨z1, z2, z3⟩ | ⟨z1, z2⟩
      · subst z1 z2 z3
        exact Or.inl HA1.out.1
      · exact Or.inr (slOk_keep z1 (fun k hk => by rw [hW3, tyB_set, tyB_set, tyB_set, tyB_set, tyB_set, tyB_set, tyB_set]; exact hk)))
  clear hW3 x0 x1 x2 x3 x4 x5 x6 xf xz HX3 HT3 HR2 HB2 HOR HX1 HA1 HBV HA
  have HCE : Hid (∀ LF LD w', StS n0 v0 s p r q P LF LD w.heap.size [.int .i64 0, .int .i64 f, .int .i64 k, .int .i64 yk, .int .u64 yb, .slice a2 A2.length c2, .bool ft] a2 A2.length c2 A2 w' → (w'.cell? ⟨w.heap.size, 1, none⟩ = some (.int .i64 f) ∧ w'.cell? ⟨w.heap.size, 2, none⟩ = some (.int .i64 k)) ∧ (w'.cell? ⟨w.heap.size, 3, none⟩ = some (.int .i64 yk) ∧ w'.cell? ⟨w.heap.size, 4, none⟩ = some (.int .u64 yb)) ∧ w'.cell? ⟨w.heap.size, 5, none⟩ = some (.slice a2 A2.length c2)) := Lib.hid (fun LF LD w' h => by
    obtain ⟨x0, x1, x2, x3, x4, x5, x6, xf⟩ := blk7z h.bx
    exact ⟨⟨x1, x2⟩, ⟨x3, x4⟩, x5⟩)
  have HPA3 := Lib.hid HST.out.pa
  obtain ⟨x0, x1, x2, x3, x4, x5, x6, xf⟩ := blk7z HST.out.bx
  have xz := HST.out.bx.1
  have HCF := Lib.hid (fun (w' : World) (a' : Option Addr) (n' c' : Nat) (h' : PAt n0 w' s p P L) (hr : ReadR valE w' (.slice a' n' c') A2) => fcall_all h' HS28.out HLI.out f hr (Nat.le_trans HL10.out (by decide)))
  have HCD := Lib.hid (fun (w' : World) (h' : DAt v0 w' r q L) (hr : ReadR valE w' (.slice a2 A2.length c2) A2) => rcall_all h' HRP.out HS28.out HLI.out f hr)
  have HXI := Lib.hid (call_inv HLI.out f A2)
  revert HCF HCD HXI
  generalize callM P L f A2 = X
  obtain ⟨LX, xc⟩ := X
  intro HCF HCD HXI
  have hxx : (xc == xc) = true := by simp
  go_upto_region 6 with fail
  clear x0 x1 x2 x3 x4 x5 x6 xf xz
  refine wp_region_held_drew (S := fun w' => (w'.cell? ⟨w.heap.size, 1, none⟩ = some (.int .i64 f) ∧ w'.cell? ⟨w.heap.size, 2, none⟩ = some (.int .i64 k)) ∧ (w'.cell? ⟨w.heap.size, 3, none⟩ = some (.int .i64 yk) ∧ w'.cell? ⟨w.heap.size, 4, none⟩ = some (.int .u64 yb)) ∧ w'.cell? ⟨w.heap.size, 5, none⟩ = some (.slice a2 A2.length c2)) (by kernel_rfl) (HCE.out _ _ _ (st_below HST.out (b_drew (Below.refl _ _)))) (fun hHeld => ?_)
  refine atI 0 ?_
  iterate 5 (refine takeN (v := ?_) rfl (by rfl) ?_ hHeld ?_; rotate_left; (focus (intro w hSw; (try dsimp only at hSw); go_simp; try (with_reducible rfl))); (try simp only [Act.put, Nat.reduceAdd, List.getElem_toArray, List.getElem_cons_succ, List.getElem_cons_zero, List.setIfInBounds_toArray, List.set_cons_zero, List.set_cons_succ]))
  refine atIo ?_
  refine atI 7 ?_
  iterate 5 (refine takeN (v := ?_) rfl (by rfl) ?_ hHeld ?_; rotate_left; (focus (intro w hSw; (try dsimp only at hSw); go_simp; try (with_reducible rfl))); (try simp only [Act.put, Nat.reduceAdd, List.getElem_toArray, List.getElem_cons_succ, List.getElem_cons_zero, List.setIfInBounds_toArray, List.set_cons_zero, List.set_cons_succ]))
  refine atIo ?_
  refine wpAnyH_named ?_
  intro tz htz
  have HSTtz := Lib.hid (st_below HST.out (show Below W3.heap.size W3 tz by rw [htz]; exact b_drew (Below.refl _ _)))
  clear htz
  refine wpAnyH_ready (rs := [5]) (by kernel_rfl) (by simp) (AllReadyH.cons rfl (fun K hK => ?_) AllReadyH.nil)
  go_simp
  refine (lall28 _ A2 _ HSTtz.out.ar (Nat.le_trans HL10.out (by decide))).mono ?_
  rintro e t1 ⟨a7, c7, rfl, hr7, ht7, hb7⟩
  have HSTt1 := Lib.hid (st_below HSTtz.out hb7)
  have HVS := Lib.hid (And.intro hr7 ht7)
  clear hr7 ht7 hb7
  refine hK.out _ _ (HCE.out _ _ _ HSTt1.out) (fun hHeld => ?_)
  clear hK K
  (try simp only [Act.put, List.getElem_toArray, List.getElem_cons_succ, List.getElem_cons_zero, List.setIfInBounds_toArray, List.set_cons_zero, List.set_cons_succ])
  refine wpAnyH_ready (rs := [6]) (by kernel_rfl) (by simp) (AllReadyH.cons rfl (fun K hK => ?_) AllReadyH.nil)
  go_simp
  refine (HCF.out _ _ _ _ HSTt1.out.pa HVS.out.1).mono ?_
  rintro e t2 ⟨rfl, ht⟩
  have HSTt2 := Lib.hid (st_F HSTt1.out ht HV.out)
  clear ht
  refine hK.out _ _ (HCE.out _ _ _ HSTt2.out) (fun hHeld => ?_)
  clear hK K
  (try simp only [Act.put, List.getElem_toArray, List.getElem_cons_succ, List.getElem_cons_zero, List.setIfInBounds_toArray, List.set_cons_zero, List.set_cons_succ])
  refine wpAnyH_ready (rs := [12]) (by kernel_rfl) (by simp) (AllReadyH.cons rfl (fun K hK => ?_) AllReadyH.nil)
  go_simp
  refine (HCD.out _ HSTt2.out.da HSTt2.out.ar).mono ?_
  rintro e t3 ⟨rfl, ht⟩
  have HSTt3 := Lib.hid (st_D HSTt2.out ht)
  clear ht
  refine hK.out _ _ (HCE.out _ _ _ HSTt3.out) (fun hHeld => ?_)
  clear hK K
  (try simp only [Act.put, List.getElem_toArray, List.getElem_cons_succ, List.getElem_cons_zero, List.setIfInBounds_toArray, List.set_cons_zero, List.set_cons_succ])
  refine atI 13 ?_
  iterate 2 (refine takeN (v := ?_) rfl (by rfl) ?_ hHeld ?_; rotate_left; (focus (intro w hSw; (try dsimp only at hSw); go_simp; try (with_reducible rfl))); (try simp only [Act.put, Nat.reduceAdd, List.getElem_toArray, List.getElem_cons_succ, List.getElem_cons_zero, List.setIfInBounds_toArray, List.set_cons_zero, List.set_cons_succ]))
  refine atIo ?_
  refine wpAnyH_done (by kernel_rfl) ?_ _
  go_wp2_with fail
  go_ret
  exact ⟨rfl, LX, HSTt3.out.pa, HSTt3.out.da, HXI.out⟩
end
end Go.Proofs.Ytdmidnmciaediaa
