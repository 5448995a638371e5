/- Layer 34: the program's Print. Conditions: those stated. -/
import Derived.Test.YtedmjlhgpdeafaaDoorPAsmR
import Derived.Test.YtedmjlhgpdeafaaDoorPAsmX
import Derived.Test.YtedmjlhgpdeafaaDoorPMayPa
import Derived.Deep.DeepCutAuto
namespace Go.Proofs.YtedmjlhgpdeafaaDoor
open Go.RowKit
set_option linter.unusedVariables false
set_option linter.unusedSimpArgs false
attribute [local go_sem] over_cell over_frozen
theorem bld_below {B b : Nat} {bs : List Value} {W W' : World} (h : Lib.IsBuilderF 88 5 B b bs W) (hb : Below W.heap.size W W') : Lib.IsBuilderF 88 5 B b bs W' := by
  have key : ∀ p, Lib.BuilderAtF 88 5 B b p bs W → Lib.BuilderAtF 88 5 B b p bs W' := fun p h => by
    have hlt := h.lt
    obtain ⟨hB, v, hv, hown, hne⟩ := h
    exact ⟨hB, v, (hb.block b hlt).trans hv, hown.kept (row := none) (gb_of hb none) (Classical.em _), hne⟩
  exact h.elim (fun q => Or.inl (key _ q)) (fun q => Or.inr (key _ q))
/-- The text so far: the builder right behind W1; what lies in W1 is as it was. -/
structure PrAt (W1 w : World) (bs : List UInt8) : Prop where
  bl : Lib.IsBuilderF 88 5 W1.heap.size W1.heap.size (Lib.byteCells bs) w
  be : Below W1.heap.size W1 w
theorem prAt_below {W1 w w' : World} {bs : List UInt8} (h : PrAt W1 w bs) (hb : Below w.heap.size w w') : PrAt W1 w' bs := ⟨bld_below h.bl hb, b_call h.be hb⟩
def wJoin (xs : List (List UInt8)) : List UInt8 := Lib.join xs [32]
theorem bytes_app (a b : List UInt8) : Lib.byteCells a ++ Lib.strCells ⟨b.toArray⟩ = Lib.byteCells (a ++ b) := by
  unfold Lib.byteCells Lib.strCells
  rw [List.map_append]
theorem oth_below {b : Option Nat} {w w' : World} (hb : Below w.heap.size w w') : Lib.OthersKept 5 b w w' := fun k o hk _ _ => (hb.block k (Array.getElem?_eq_some_iff.1 hk).1).trans hk
theorem oth_blk {b k : Nat} {w w' : World} {cs : Array Value} {T : TypeId} {fz : Nat × Nat} (h : Lib.OthersKept 5 (some b) w w') (hk : w.heap[k]? = some (.cells cs T fz)) (hb : k ≠ b) (hT : T ≠ 5) : w'.heap[k]? = some (.cells cs T fz) :=
  h k _ hk (fun e => hb (by injection e)) (fun c f e => by injection e with _ e _; exact hT e)
theorem blk_raw {w : World} {k : Nat} {cs : Array Value} {T : TypeId} (h : w.heap[k]? = some (.cells cs T (0, 0))) : Blk w k cs.toList := by
  refine ⟨(Array.getElem?_eq_some_iff.1 h).1, fun i hi => ?_, fun i => ?_⟩
  · unfold World.cell?
    simp only [h]
    simp at hi ⊢
  · unfold World.frozen?
    simp only [h]
    simp
theorem raw_alloc (w : World) (cs : Array Value) (T : TypeId) : (w.alloc (.cells cs T)).heap[w.heap.size]? = some (.cells cs T (0, 0)) := (MapKept.heap_alloc w _).1
theorem raw_below {w w' : World} {k : Nat} {o : Obj} (h : w.heap[k]? = some o) (hb : Below w.heap.size w w') : w'.heap[k]? = some o := (hb.block k (Array.getElem?_eq_some_iff.1 h).1).trans h
/-- What put does. -/
def PutEnd (W1 w : World) (bs : List UInt8) (e : Ending) (w' : World) : Prop := e = .returned (.tuple #[]) ∧ PrAt W1 w' bs ∧ Lib.OthersKept 5 (some W1.heap.size) w w'
set_option maxRecDepth 100000 in
set_option maxHeartbeats 1000000 in
theorem put_any {W1 : World} {bs : List UInt8} {bk o n c : Nat} {xs : List (List UInt8)} (w : World) (h : PrAt W1 w bs) (hr : ReadR strE w (.slice (some ⟨bk, o, none⟩) n c) xs) (hx : xs ≠ []) (hxl : xs.length ≤ 1000) (hl : bs.length ≤ 10000000) (hl2 : (wJoin xs).length ≤ 1000000) :
    Calls Tryd.prog 43 #[.slice (some ⟨bk, o, none⟩) n c, .pointer (some ⟨W1.heap.size, 0, none⟩)] w (PutEnd W1 w (bs ++ (wJoin xs ++ [10]))) := by
  obtain ⟨ys, hys⟩ : ∃ ys : List ByteArray, ys = xs.map (fun l => ⟨l.toArray⟩) := ⟨_, rfl⟩
  obtain ⟨bk', o', c', e1, hc1, hc2, hb, hcl⟩ := readR_pos hr (List.length_pos_iff.2 hx)
  injection e1 with e1 e2 e3
  injection e1 with e1
  injection e1 with e1 e4
  subst e1 e3 e4
  have hyl : ys.length = n := by rw [hys, List.length_map, e2]
  have hmap : ys.map (·.data.toList) = xs := by
    rw [hys, List.map_map]
    exact List.map_id'' (fun _ => rfl) xs
  have hcells : ∀ (j : Nat) x, ys[j]? = some x → w.cell? ⟨bk, o + j, none⟩ = some (.string x) := fun j x hj => by
    obtain ⟨hlt, e⟩ := List.getElem?_eq_some_iff.1 hj
    have hlt' : j < xs.length := by rw [hys, List.length_map] at hlt; exact hlt
    have q := hcl j hlt' 0 (by decide)
    have e5 : o + (j * strE.size + 0) = o + j := by show o + (j * 1 + 0) = _; omega
    rw [e5] at q
    rw [q, ← e]
    simp [strE, hys]
  have HJ : Hid (Calls Tryd.prog 45 #[.slice (some ⟨bk, o, none⟩) n c, .string ⟨#[32]⟩] w fun e w' => e = .returned (.string ⟨(wJoin xs).toArray⟩) ∧ Below w.heap.size w w') := Lib.hid (by
    have q := Tryd.strings_Join bk o c ys ⟨#[32]⟩ w hcells hb (by rw [hyl, e2]; omega) (by rw [hyl, e2]; exact hc1) (by rw [hmap]; show (wJoin xs).length ≤ _; omega)
    rw [hyl, hmap] at q
    exact q)
  have HH := Lib.hid h
  generalize wJoin xs = jj at *
  clear hr hx hxl hys hcells hmap hyl hcl hc1 hc2 hb e2 h
  go_enter Tryd.func43, Tryd.ntmps43
  go_wp2_with fail
  refine HJ.out.mono ?_
  rintro e w2 ⟨rfl, hb2⟩
  have H2 := Lib.hid (prAt_below HH.out hb2)
  have HO2 := Lib.hid (oth_below (b := some W1.heap.size) hb2)
  clear hb2
  go_wp2_with fail
  refine (Tryd.Builder_WriteString W1.heap.size W1.heap.size _ _ _ H2.out.bl (by rw [Lib.byteCells_length, ba_append jj [10]]; show bs.length + (jj ++ [10]).length ≤ _; simp; omega) H2.out.be.size).mono ?_
  rintro e w3 ⟨rfl, hB3, hb3, ho3⟩
  have HF3 : Hid (PutEnd W1 w (bs ++ (jj ++ [10])) (.returned (.tuple #[])) w3) := Lib.hid ⟨rfl, ⟨by rw [ba_append jj [10], bytes_app] at hB3; exact Or.inr hB3, H2.out.be.trans hb3⟩, HO2.out.trans ho3⟩
  clear hB3 hb3 ho3
  go_wp2_with fail
  exact bodyPost_end (v := .tuple #[]) (by simp [results, Tryd.results43, go_sem]) rfl HF3.out
theorem readS {w : World} {cs : Array Value} {T : TypeId} {n : Nat} {L : List (List UInt8)} (hcs : cs.toList = strE.row L) (hn : n = L.length) (hm : n ≤ 1000) : ReadR strE (w.alloc (.cells cs T)) (.slice (some ⟨w.heap.size, 0, none⟩) n n) L := by
  subst hn
  exact readR_blk (by rw [← hcs]; exact blk_new _ _ _) (Nat.le_refl _) (by unfold maxLen; omega)
theorem join1 (a : List UInt8) : wJoin [a] = a := by simp [wJoin, Lib.join, List.intercalate]
theorem join2 (a b : List UInt8) : wJoin [a, b] = a ++ [32] ++ b := by simp [wJoin, Lib.join, List.intercalate]
theorem join4 (a b c d : List UInt8) : wJoin [a, b, c, d] = a ++ [32] ++ b ++ [32] ++ c ++ [32] ++ d := by simp [wJoin, Lib.join, List.intercalate]
set_option maxRecDepth 100000 in
set_option maxHeartbeats 1000000 in
theorem aprint_no (p : PrV) (P : PrM) (w : World) (h : ReadP w p P) (hm : mayP P = false) : Calls Tryd.prog 17 #[aggP p] w fun e w' => e = .returned (.tuple #[strV [], .int .i64 1]) ∧ Below w.heap.size w w' := by
  have HM : Hid (∀ w', Below w.heap.size w w' → Calls Tryd.prog 30 #[aggP p] w' fun e w'' => e = .returned (.bool false) ∧ Below w'.heap.size w' w'') := Lib.hid (fun w' hb => by
    have q := pmay_any p P w' (readP_below h hb)
    rw [hm] at q; exact q)
  obtain ⟨u, ⟨ga, gn, gc⟩, m, ⟨fa, fn, fc⟩⟩ := p
  clear h hm
  unfold aggP Sl.v at *
  simp only at HM ⊢
  go_enter Tryd.func17, Tryd.ntmps17
  go_upto_region 1 with fail
  refine wp_named ?_
  intro W0 hW0
  have HX0 : Hid (Blk W0 w.heap.size [.bool u, .slice ga gn gc, .int .i64 m, .slice fa fn fc]) := Lib.hid (by rw [hW0]; exact blk_new _ _ _)
  have HW0 : Hid (Below w.heap.size w W0) := Lib.hid (by rw [hW0]; exact b_alloc (Below.refl _ _) _)
  clear hW0
  obtain ⟨c0, c1, c2, c3, cf⟩ := blk4 HX0.out
  have cz := HX0.out.1
  go_wp2_with fail
  refine (HM.out _ HW0.out).mono ?_
  rintro e w2 ⟨rfl, hb2⟩
  have HB2 := Lib.hid (b_call HW0.out hb2)
  clear hb2
  go_wp2_with fail
  go_ret2
  exact ⟨rfl, HB2.out⟩
set_option maxRecDepth 100000 in
set_option maxHeartbeats 8000000 in
theorem aprint_yes (p : PrV) (P : PrM) (w : World) (h : ReadP w p P) (hm : mayP P = true) (hgd : GoodP P) : Calls Tryd.prog 17 #[aggP p] w fun e w' => e = .returned (.tuple #[strV (printL P), .int .i64 0]) ∧ Below w.heap.size w w' := by
  have HM0 : Hid (∀ w', Below w.heap.size w w' → Calls Tryd.prog 30 #[aggP p] w' fun e w'' => e = .returned (.bool true) ∧ Below w'.heap.size w' w'') := Lib.hid (fun w' hb => by
    have q := pmay_any p P w' (readP_below h hb)
    rw [hm] at q; exact q)
  have hmp := hm
  unfold mayP at hmp
  simp only [Bool.and_eq_true, decide_eq_true_eq] at hmp
  obtain ⟨f1, f2, m1, m2, hgk, hmf0⟩ := hmp
  have hkinds : ∀ (xs : List Int) (mx : Int), kindsB xs mx = true → (∀ k ∈ xs, 0 ≤ k ∧ k ≤ 3) ∧ (xs.length : Int) ≤ mx := fun xs mx h => by
    unfold kindsB at h
    rw [Bool.and_eq_true, decide_eq_true_eq] at h
    refine ⟨fun k hk => ?_, h.2⟩
    have q := List.all_eq_true.1 h.1 k hk
    unfold kindB at q
    rw [Bool.and_eq_true, decide_eq_true_eq, decide_eq_true_eq] at q
    exact q
  obtain ⟨g1, g2⟩ := hkinds _ _ hgk
  have hmf : ∀ f ∈ P.fs, mayF f = true := fun f hf => List.all_eq_true.1 hmf0 f hf
  obtain ⟨u, ⟨ga, gn, gc⟩, m, ⟨fa, fn, fc⟩⟩ := p
  obtain ⟨hu, hg, hm', M, hM, hA⟩ := h
  simp only at hu hm'
  have hg : ReadI w (.slice ga gn gc) P.gl := hg
  have hM : ReadR fnE w (.slice fa fn fc) M := hM
  obtain ⟨fa', fc', e1, mc1, mc2⟩ := readR_len hM
  injection e1 with e1 e2 e3
  subst e1 e2 e3
  have hfs := allF_len hA
  have HA := Lib.hid hA
  have HM := Lib.hid hM
  have HG := Lib.hid hg
  have HGD := Lib.hid hgd
  have HMF := Lib.hid hmf
  have HFS := Lib.hid hfs
  have HKB := Lib.hid hkinds
  have hM16 : M.length ≤ 16 := by omega
  have hcc := cap_le mc2
  obtain ⟨t0, ht0⟩ : ∃ t0 : List UInt8, t0 = (if P.u = true then sUnch ++ [10] else []) := ⟨_, rfl⟩
  have ht0l : t0.length ≤ 10 := by rw [ht0]; split <;> simp [sUnch]
  obtain ⟨kg, hkg⟩ : ∃ kg, kg = kindsL P.gl := ⟨_, rfl⟩
  have hkgl : kg.length ≤ 9 := by have := kindsL_len P.gl; rw [hkg]; omega
  have HKG : Hid (∀ w', Below w.heap.size w w' → Calls Tryd.prog 46 #[.slice ga gn gc] w' fun e w'' => e = .returned (strV kg) ∧ Below w'.heap.size w' w'') := Lib.hid (fun w' hb => by rw [hkg]; exact akinds_any _ P.gl w' (readI_below HG.out hb) g1 (by omega))
  obtain ⟨nm, hnm⟩ : ∃ nm, nm = numI P.m := ⟨_, rfl⟩
  have hnml : nm.length ≤ 5 := by rw [hnm]; exact numI_len (by omega)
  have HNM : Hid (∀ w, Calls Tryd.prog 38 #[.int .i64 m] w fun e w' => e = .returned (strV nm) ∧ w = w') := Lib.hid (fun w => by
    have q := adigits_any P.m.toNat (by omega) w
    rw [show ((P.m.toNat : Nat) : Int) = m by omega] at q
    rw [hnm]; exact q)
  have HTOP : Hid (topL P = (t0 ++ (wJoin [sGlob, kg] ++ [10])) ++ (wJoin [sMut, nm] ++ [10])) := Lib.hid (by
    rw [join2, join2, hkg, hnm, ht0]
    unfold topL sGlob sMut sUnch
    split <;> simp)
  have hj1 : (wJoin [sGlob, kg]).length ≤ 20 := by rw [join2]; simp [sGlob]; omega
  have hj2 : (wJoin [sMut, nm]).length ≤ 20 := by rw [join2]; simp [sMut]; omega
  have HU : Hid (u = P.u ∧ t0 = (if P.u = true then sUnch ++ [10] else [])) := Lib.hid ⟨hu, ht0⟩
  have hM0 : (0 : Int) ≤ M.length := by omega
  clear hm hgd hM hA hg hm' hu hfs hmf g1 g2 m1 m2 f1 f2 hkg hnm ht0 mc2 hgk hmf0 hkinds
  unfold aggP Sl.v at *
  simp only at HM0 ⊢
  unfold strV at HKG HNM
  go_enter Tryd.func17, Tryd.ntmps17
  go_upto_region 1 with fail
  refine wp_named ?_
  intro W0 hW0
  have HX0 : Hid (Blk W0 w.heap.size [.bool u, .slice ga gn gc, .int .i64 m, .slice fa M.length fc]) := Lib.hid (by rw [hW0]; exact blk_new _ _ _)
  have HW0 : Hid (Below w.heap.size w W0) := Lib.hid (by rw [hW0]; exact b_alloc (Below.refl _ _) _)
  clear hW0
  obtain ⟨c0, c1, c2, c3, cf⟩ := blk4 HX0.out
  have cz := HX0.out.1
  go_wp2_with fail
  refine (HM0.out _ HW0.out).mono ?_
  rintro e W1 ⟨rfl, hb1⟩
  have HW1 := Lib.hid (b_call HW0.out hb1)
  have HX1 := Lib.hid (blk_below HX0.out hb1)
  clear hb1 c0 c1 c2 c3 cf cz HX0 HM0
  go_upto_region 4 with fail
  refine wp_named ?_
  intro W2 hW2
  have HP2 : Hid (PrAt W1 W2 []) := Lib.hid (by rw [hW2]; exact ⟨Lib.IsBuilderF.of (Lib.fresh_isBuilder 88 5 W1), b_alloc (Below.refl _ _) _⟩)
  clear hW2
  obtain ⟨c0, c1, c2, c3, cf⟩ := blk4 (blk_below HX1.out HP2.out.be)
  have cz := (blk_below HX1.out HP2.out.be).1
  go_upto_if 17 with fail
  go_cut [5] (fun s5 wc => s5 = .func (.func 43) #[] #[.pointer (some ⟨W1.heap.size, 0, none⟩)] ∧ Hid (PrAt W1 wc t0))
  case first =>
    cases u with
    | true =>
      have HT0 : Hid (t0 = [] ++ (wJoin [sUnch] ++ [10])) := Lib.hid (by rw [HU.out.2, if_pos HU.out.1.symm, join1]; rfl)
      go_wp2_with fail
      refine (put_any (xs := [sUnch]) _ (prAt_below HP2.out (b_alloc (Below.refl _ _) _)) (readS rfl rfl (by simp)) (by simp) (by simp) (by simp) (by rw [join1]; simp [sUnch])).mono ?_
      rintro e w3 ⟨rfl, hp3, _⟩
      have HP3 : Hid (PrAt W1 w3 t0) := Lib.hid (by rw [HT0.out]; exact hp3)
      clear hp3
      go_wp2_with fail
      go_meet
      case rel => exact ⟨rfl, HP3⟩
    | false =>
      have HT0 : Hid (t0 = []) := Lib.hid (by rw [HU.out.2, ← HU.out.1]; rfl)
      go_wp2_with fail
      go_meet
      case rel => exact ⟨rfl, Lib.hid (by rw [HT0.out]; exact HP2.out)⟩
  case rest =>
  obtain ⟨rfl, HPC⟩ := hcut
  obtain ⟨W3, hW3⟩ : ∃ x, x = wc := ⟨_, rfl⟩
  subst hW3
  clear c0 c1 c2 c3 cf cz HP2
  obtain ⟨c0, c1, c2, c3, cf⟩ := blk4 (blk_below HX1.out HPC.out.be)
  have cz := (blk_below HX1.out HPC.out.be).1
  go_wp2_with fail
  refine (HKG.out _ (b_call HW1.out HPC.out.be)).mono ?_
  rintro e w4 ⟨rfl, hb4⟩
  have HP4 := Lib.hid (prAt_below HPC.out hb4)
  clear hb4 c0 c1 c2 c3 cf cz HPC
  go_wp2_with fail
  refine (put_any (xs := [sGlob, kg]) _ (prAt_below HP4.out (b_alloc (Below.refl _ _) _)) (readS rfl rfl (by simp)) (by simp) (by simp) (by omega) (by omega)).mono ?_
  rintro e w5 ⟨rfl, hp5, _⟩
  have HP5 := Lib.hid hp5
  clear hp5 HP4
  obtain ⟨c0, c1, c2, c3, cf⟩ := blk4 (blk_below HX1.out HP5.out.be)
  have cz := (blk_below HX1.out HP5.out.be).1
  go_wp2_with fail
  refine (HNM.out _).mono ?_
  rintro e w6 ⟨rfl, rfl⟩
  go_wp2_with fail
  refine (put_any (xs := [sMut, nm]) _ (prAt_below HP5.out (b_alloc (Below.refl _ _) _)) (readS rfl rfl (by simp)) (by simp) (by simp) (by simp only [List.length_append, List.length_cons, List.length_nil]; omega) (by omega)).mono ?_
  rintro e w7 ⟨rfl, hp7, _⟩
  have HP7 : Hid (PrAt W1 w7 (topL P)) := Lib.hid (by rw [HTOP.out]; exact hp7)
  clear hp7 HP5 c0 c1 c2 c3 cf cz
  obtain ⟨c0, c1, c2, c3, cf⟩ := blk4 (blk_below HX1.out HP7.out.be)
  have cz := (blk_below HX1.out HP7.out.be).1
  have htl : (topL P).length ≤ 100 := by rw [HTOP.out]; simp only [List.length_append, List.length_cons, List.length_nil]; omega
  have HTL := Lib.hid htl
  clear htl
  go_wp2_with fail
  go_loopw [36] (fun i wr => ∃ k : Nat, k ≤ M.length ∧ i = .int .i64 k ∧ ∃ t : List UInt8, t.length ≤ 100 + 4000 * k ∧ Hid (t = topL P ++ (P.fs.take k).flatMap funcL) ∧ Hid (PrAt W1 wr t)) (fun i _ => M.length - (intOf i).toNat)
  case atStart => exact ⟨0, Nat.zero_le _, rfl, topL P, by have := HTL.out; omega, Lib.hid (by simp), HP7⟩
  case round =>
    clear c0 c1 c2 c3 cf cz HP7
    obtain ⟨WR, hWR⟩ : ∃ x, x = wr := ⟨_, rfl⟩
    subst hWR
    obtain ⟨k, hk, rfl, t, htl, HT, HPR⟩ := hrel
    have hk0 : (0 : Int) ≤ k := by omega
    have htl2 : t.length ≤ 70000 := by omega
    by_cases hlt : k < M.length
    · have hk1 : (k : Int) < M.length := by omega
      have hkc : (k : Int) < fc := by omega
      have hlt' : k < P.fs.length := by have := HFS.out; omega
      obtain ⟨bl, off, cp, e1, r1, r2, hbl, r4⟩ := readR_pos (readR_below HM.out (b_call HW1.out HPR.out.be)) (by omega)
      injection e1 with e1 e1b e3
      subst e1
      have d0 : WR.cell? ⟨bl, off + k * 4, none⟩ = some (.slice M[k].p.a M[k].p.n M[k].p.c) := r4 k hlt 0 (by decide)
      have d1 : WR.cell? ⟨bl, off + k * 4 + 1, none⟩ = some (.slice M[k].l.a M[k].l.n M[k].l.c) := r4 k hlt 1 (by decide)
      have d2 : WR.cell? ⟨bl, off + k * 4 + 2, none⟩ = some (.int .i64 M[k].r) := r4 k hlt 2 (by decide)
      have d3 : WR.cell? ⟨bl, off + k * 4 + 3, none⟩ = some (.slice M[k].c.a M[k].c.n M[k].c.c) := r4 k hlt 3 (by decide)
      have hD := allF_at HA.out k hlt hlt'
      have HMK := Lib.hid (HMF.out P.fs[k] (List.getElem_mem hlt'))
      have HGK := Lib.hid (HGD.out P.fs[k] (List.getElem_mem hlt'))
      have HTK : Hid (∀ x, topL P ++ (P.fs.take (k + 1)).flatMap funcL = t ++ x ↔ funcL P.fs[k] = x) := Lib.hid (fun x => by
        rw [List.take_succ_eq_append_getElem hlt', List.flatMap_append, ← List.append_assoc, ← HT.out]
        simp)
      generalize M[k] = v at *
      generalize P.fs[k] = f at *
      obtain ⟨⟨pa, pn, pc⟩, ⟨xa, xn, xc⟩, r, ⟨ca, cn, cc⟩⟩ := v
      simp only at d0 d1 d2 d3
      have hmf := HMK.out
      unfold mayF at hmf
      simp only [Bool.and_eq_true, decide_eq_true_eq] at hmf
      obtain ⟨hk1', hk2', rr1, rr2, cl1, cl2, hmc0⟩ := hmf
      obtain ⟨ps1, ps2⟩ := HKB.out _ _ hk1'
      obtain ⟨ls1, ls2⟩ := HKB.out _ _ hk2'
      have hmc : ∀ i ∈ f.code, mayB i.op i.x i.a i.b = true := fun i hi => List.all_eq_true.1 hmc0 i hi
      have hDp : ReadI w (.slice pa pn pc) f.ps := hD.p
      have hDl : ReadI w (.slice xa xn xc) f.ls := hD.l
      have hDr : r = f.r := hD.r
      have hDc : ReadR inE w (.slice ca cn cc) f.code := hD.c
      obtain ⟨ca', cc', e1, cm1, cm2⟩ := readR_len hDc
      injection e1 with e1 e2 e3
      subst e1 e2 e3
      have HDC := Lib.hid hDc
      have HDP := Lib.hid hDp
      have HDL := Lib.hid hDl
      have HMC := Lib.hid hmc
      obtain ⟨kp, hkp⟩ : ∃ kp, kp = kindsL f.ps := ⟨_, rfl⟩
      obtain ⟨kl, hkl⟩ : ∃ kl, kl = kindsL f.ls := ⟨_, rfl⟩
      obtain ⟨kr, hkr⟩ : ∃ kr, kr = kindsL [r] := ⟨_, rfl⟩
      have hkpl : kp.length ≤ 9 := by have := kindsL_len f.ps; rw [hkp]; omega
      have hkll : kl.length ≤ 9 := by have := kindsL_len f.ls; rw [hkl]; omega
      have hkrl : kr.length ≤ 2 := by have := kindsL_len [r]; rw [hkr]; simpa using this
      have HK1 : Hid (∀ w', Below w.heap.size w w' → Calls Tryd.prog 46 #[.slice pa pn pc] w' fun e w'' => e = .returned (.string ⟨kp.toArray⟩) ∧ Below w'.heap.size w' w'') := Lib.hid (fun w' hb => by rw [hkp]; exact akinds_any _ f.ps w' (readI_below HDP.out hb) ps1 (by omega))
      have HK2 : Hid (∀ w', Below w.heap.size w w' → Calls Tryd.prog 46 #[.slice xa xn xc] w' fun e w'' => e = .returned (.string ⟨kl.toArray⟩) ∧ Below w'.heap.size w' w'') := Lib.hid (fun w' hb => by rw [hkl]; exact akinds_any _ f.ls w' (readI_below HDL.out hb) ls1 (by omega))
      have HK3 : Hid (∀ (w' : World) {u : Value}, ReadI w' u [r] → Calls Tryd.prog 46 #[u] w' fun e w'' => e = .returned (.string ⟨kr.toArray⟩) ∧ Below w'.heap.size w' w'') := Lib.hid (fun w' u hu => by rw [hkr]; exact akinds_any _ [r] w' hu (fun z hz => by rw [List.mem_singleton.1 hz, hDr]; exact ⟨rr1, rr2⟩) (by simp))
      have HHD : Hid (headL f = wJoin [sFunc, kp, kl, kr] ++ [10]) := Lib.hid (by rw [join4, hkp, hkl, hkr, hDr]; unfold headL sFunc; simp)
      have hj4 : (wJoin [sFunc, kp, kl, kr]).length ≤ 30 := by rw [join4]; simp [sFunc]; omega
      have hhl : (headL f).length ≤ 40 := by rw [HHD.out, List.length_append]; simp only [List.length_cons, List.length_nil]; omega
      have hcl : f.code.length ≤ 96 := by omega
      have hc0 : (0 : Int) ≤ f.code.length := by omega
      have hcc2 := cap_le cm2
      clear r4 r1 r2 e1b e3 hD hDp hDl hDr hDc hmc hmc0 hkp hkl hkr ps1 ps2 ls1 ls2 rr1 rr2 cl1 cl2 cm2 hk1' hk2'
      go_upto_region 12 with fail
      refine wp_named ?_
      intro W2 hW2
      have HRAW : Hid (W2.heap[WR.heap.size]? = some (.cells #[.slice pa pn pc, .slice xa xn xc, .int .i64 r, .slice ca f.code.length cc] 63 (0, 0))) := Lib.hid (by rw [hW2]; exact raw_alloc _ _ _)
      have HPW2 : Hid (PrAt W1 W2 t) := Lib.hid (by rw [hW2]; exact prAt_below HPR.out (b_alloc (Below.refl _ _) _))
      have HBW2 : Hid (Below w.heap.size w W2) := Lib.hid (b_call HW1.out HPW2.out.be)
      have HLT2 : Hid (WR.heap.size ≠ W1.heap.size) := Lib.hid (by
        have q : W1.heap.size < WR.heap.size := by
          rcases HPR.out.bl with z | z
          · exact z.lt
          · exact z.lt
        omega)
      have HC2 : Hid (∀ w', Below W2.heap.size W2 w' → w'.cell? ⟨WR.heap.size, 0, none⟩ = some (.slice pa pn pc) ∧ w'.cell? ⟨WR.heap.size, 1, none⟩ = some (.slice xa xn xc) ∧ w'.cell? ⟨WR.heap.size, 2, none⟩ = some (.int .i64 r)) := Lib.hid (fun w' hb => by
        obtain ⟨z0, z1, z2, _⟩ := blk4 (blk_raw (raw_below HRAW.out hb))
        exact ⟨z0, z1, z2⟩)
      clear hW2 d0 d1 d2 d3 hbl
      go_cut [7, 36] from 36 to 70 (fun x i wz => i = .int .i64 k ∧ x = .pointer (some ⟨WR.heap.size, 0, none⟩) ∧ Hid (PrAt W1 wz (t ++ headL f)) ∧ Hid (wz.heap[WR.heap.size]? = some (.cells #[.slice pa pn pc, .slice xa xn xc, .int .i64 r, .slice ca f.code.length cc] 63 (0, 0))))
      case first =>
        refine wp_region_held_drew (S := fun w' => w'.cell? ⟨WR.heap.size, 0, none⟩ = some (.slice pa pn pc) ∧ w'.cell? ⟨WR.heap.size, 1, none⟩ = some (.slice xa xn xc) ∧ w'.cell? ⟨WR.heap.size, 2, none⟩ = some (.int .i64 r)) (by kernel_rfl) (HC2.out _ (b_drew (Below.refl _ _))) (fun hHeld => ?_)
        refine atI 0 ?_
        iterate 3 (refine takeN (v := ?_) rfl (by rfl) ?_ hHeld ?_; rotate_left; (focus (intro w hSw; (try dsimp only at hSw); go_simp; try (with_reducible rfl))); (try simp only [Act.put, Nat.reduceAdd, List.getElem_toArray, List.getElem_cons_succ, List.getElem_cons_zero, List.setIfInBounds_toArray, List.set_cons_zero, List.set_cons_succ]))
        refine atIo ?_
        refine atI 4 ?_
        iterate 2 (refine takeN (v := ?_) rfl (by rfl) ?_ hHeld ?_; rotate_left; (focus (intro w hSw; (try dsimp only at hSw); go_simp; try (with_reducible rfl))); (try simp only [Act.put, Nat.reduceAdd, List.getElem_toArray, List.getElem_cons_succ, List.getElem_cons_zero, List.setIfInBounds_toArray, List.set_cons_zero, List.set_cons_succ]))
        refine atIo ?_
        refine atI 7 ?_
        iterate 2 (refine takeN (v := ?_) rfl (by rfl) ?_ hHeld ?_; rotate_left; (focus (intro w hSw; (try dsimp only at hSw); go_simp; try (with_reducible rfl))); (try simp only [Act.put, Nat.reduceAdd, List.getElem_toArray, List.getElem_cons_succ, List.getElem_cons_zero, List.setIfInBounds_toArray, List.set_cons_zero, List.set_cons_succ]))
        refine atIo ?_
        refine wpAnyH_named ?_
        intro q0 hq0
        have HBq0 : Hid (Below W2.heap.size W2 q0) := Lib.hid (by rw [hq0]; exact b_drew (Below.refl _ _))
        clear hq0
        replace hHeld := HC2.out _ HBq0.out
        refine wpAnyH_ready (rs := [3, 9]) (by kernel_rfl) (by simp) (AllReadyH.cons rfl (fun K hK => ?_) (AllReadyH.cons rfl (fun K hK => ?_) (AllReadyH.nil)))
        · skip
          go_simp
          refine (HK1.out _ (b_call HBW2.out HBq0.out)).mono ?_
          rintro e q1 ⟨rfl, hn⟩
          have HBq1 := Lib.hid (b_call HBq0.out hn)
          clear hn
          refine hK.out _ _ (HC2.out _ HBq1.out) (fun hHeld => ?_)
          clear hK K
          (try simp only [Act.put, List.getElem_toArray, List.getElem_cons_succ, List.getElem_cons_zero, List.setIfInBounds_toArray, List.set_cons_zero, List.set_cons_succ])
          refine wpAnyH_ready (rs := [6, 9]) (by kernel_rfl) (by simp) (AllReadyH.cons rfl (fun K hK => ?_) (AllReadyH.cons rfl (fun K hK => ?_) (AllReadyH.nil)))
          · skip
            go_simp
            refine (HK2.out _ (b_call HBW2.out HBq1.out)).mono ?_
            rintro e q2 ⟨rfl, hn⟩
            have HBq2 := Lib.hid (b_call HBq1.out hn)
            clear hn
            refine hK.out _ _ (HC2.out _ HBq2.out) (fun hHeld => ?_)
            clear hK K
            (try simp only [Act.put, List.getElem_toArray, List.getElem_cons_succ, List.getElem_cons_zero, List.setIfInBounds_toArray, List.set_cons_zero, List.set_cons_succ])
            refine wpAnyH_ready (rs := [9]) (by kernel_rfl) (by simp) (AllReadyH.cons rfl (fun K hK => ?_) AllReadyH.nil)
            go_simp
            refine hK.out _ _ (HC2.out _ (b_alloc HBq2.out _)) (fun hHeld => ?_)
            clear hK K
            (try simp only [Act.put, List.getElem_toArray, List.getElem_cons_succ, List.getElem_cons_zero, List.setIfInBounds_toArray, List.set_cons_zero, List.set_cons_succ])
            refine wpAnyH_named ?_
            intro q3 hn
            have HBq3 : Hid (Below W2.heap.size W2 q3) := Lib.hid (by rw [hn]; exact b_alloc HBq2.out _)
            have HYq3 : Hid (ReadI q3 (.slice (some ⟨q2.heap.size, 0, none⟩) 1 1) [r]) := Lib.hid (by rw [hn]; exact read_one q2 r)
            clear hn
            replace hHeld := HC2.out _ HBq3.out
            refine wpAnyH_ready (rs := [10]) (by kernel_rfl) (by simp) (AllReadyH.cons rfl (fun K hK => ?_) AllReadyH.nil)
            go_simp
            refine (HK3.out _ HYq3.out).mono ?_
            rintro e q4 ⟨rfl, hn⟩
            have HBq4 := Lib.hid (b_call HBq3.out hn)
            clear hn
            refine hK.out _ _ (HC2.out _ HBq4.out) (fun hHeld => ?_)
            clear hK K
            (try simp only [Act.put, List.getElem_toArray, List.getElem_cons_succ, List.getElem_cons_zero, List.setIfInBounds_toArray, List.set_cons_zero, List.set_cons_succ])
            refine wpAnyH_ready (rs := [11]) (by kernel_rfl) (by simp) (AllReadyH.cons rfl (fun K hK => ?_) AllReadyH.nil)
            go_simp
            refine hK.out _ _ (HC2.out _ (b_alloc HBq4.out _)) (fun hHeld => ?_)
            clear hK K
            (try simp only [Act.put, List.getElem_toArray, List.getElem_cons_succ, List.getElem_cons_zero, List.setIfInBounds_toArray, List.set_cons_zero, List.set_cons_succ])
            refine wpAnyH_named ?_
            intro q5 hn
            have HBq5 : Hid (Below W2.heap.size W2 q5) := Lib.hid (by rw [hn]; exact b_alloc HBq4.out _)
            have HWq5 : Hid (ReadR strE q5 (.slice (some ⟨q4.heap.size, 0, none⟩) 4 4) [sFunc, kp, kl, kr]) := Lib.hid (by rw [hn]; exact readS rfl rfl (by simp))
            clear hn
            replace hHeld := HC2.out _ HBq5.out
            refine wpAnyH_ready (rs := [12]) (by kernel_rfl) (by simp) (AllReadyH.cons rfl (fun K hK => ?_) AllReadyH.nil)
            go_simp
            refine (put_any _ (prAt_below HPW2.out HBq5.out) HWq5.out (by simp) (by simp) (by omega) (by omega)).mono ?_
            rintro e q6 ⟨rfl, hp, ho⟩
            have HPq6 := Lib.hid hp
            have HRq6 : Hid (q6.heap[WR.heap.size]? = _) := Lib.hid (oth_blk ho (raw_below HRAW.out HBq5.out) HLT2.out (by decide))
            clear hp ho
            have hS : q6.cell? ⟨WR.heap.size, 0, none⟩ = some (.slice pa pn pc) ∧ q6.cell? ⟨WR.heap.size, 1, none⟩ = some (.slice xa xn xc) ∧ q6.cell? ⟨WR.heap.size, 2, none⟩ = some (.int .i64 r) := by
              obtain ⟨z0, z1, z2, _⟩ := blk4 (blk_raw HRq6.out)
              exact ⟨z0, z1, z2⟩
            refine hK.out _ _ (hS) (fun hHeld => ?_)
            clear hK K
            (try simp only [Act.put, List.getElem_toArray, List.getElem_cons_succ, List.getElem_cons_zero, List.setIfInBounds_toArray, List.set_cons_zero, List.set_cons_succ])
            refine wpAnyH_done (by kernel_rfl) ?_ _
            go_wp2_with fail
            go_meet
            case rel => exact ⟨rfl, rfl, Lib.hid (by rw [HHD.out]; exact HPq6.out), HRq6⟩
          · skip
            go_simp
            refine hK.out _ _ (HC2.out _ (b_alloc HBq1.out _)) (fun hHeld => ?_)
            clear hK K
            (try simp only [Act.put, List.getElem_toArray, List.getElem_cons_succ, List.getElem_cons_zero, List.setIfInBounds_toArray, List.set_cons_zero, List.set_cons_succ])
            refine wpAnyH_named ?_
            intro q7 hn
            have HBq7 : Hid (Below W2.heap.size W2 q7) := Lib.hid (by rw [hn]; exact b_alloc HBq1.out _)
            have HYq7 : Hid (ReadI q7 (.slice (some ⟨q1.heap.size, 0, none⟩) 1 1) [r]) := Lib.hid (by rw [hn]; exact read_one q1 r)
            clear hn
            replace hHeld := HC2.out _ HBq7.out
            refine wpAnyH_ready (rs := [6]) (by kernel_rfl) (by simp) (AllReadyH.cons rfl (fun K hK => ?_) AllReadyH.nil)
            go_simp
            refine (HK2.out _ (b_call HBW2.out HBq7.out)).mono ?_
            rintro e q8 ⟨rfl, hn⟩
            have HBq8 := Lib.hid (b_call HBq7.out hn)
            have HYq8 := Lib.hid (readI_below HYq7.out hn)
            clear hn
            refine hK.out _ _ (HC2.out _ HBq8.out) (fun hHeld => ?_)
            clear hK K
            (try simp only [Act.put, List.getElem_toArray, List.getElem_cons_succ, List.getElem_cons_zero, List.setIfInBounds_toArray, List.set_cons_zero, List.set_cons_succ])
            refine wpAnyH_ready (rs := [10]) (by kernel_rfl) (by simp) (AllReadyH.cons rfl (fun K hK => ?_) AllReadyH.nil)
            go_simp
            refine (HK3.out _ HYq8.out).mono ?_
            rintro e q9 ⟨rfl, hn⟩
            have HBq9 := Lib.hid (b_call HBq8.out hn)
            clear hn
            refine hK.out _ _ (HC2.out _ HBq9.out) (fun hHeld => ?_)
            clear hK K
            (try simp only [Act.put, List.getElem_toArray, List.getElem_cons_succ, List.getElem_cons_zero, List.setIfInBounds_toArray, List.set_cons_zero, List.set_cons_succ])
            refine wpAnyH_ready (rs := [11]) (by kernel_rfl) (by simp) (AllReadyH.cons rfl (fun K hK => ?_) AllReadyH.nil)
            go_simp
            refine hK.out _ _ (HC2.out _ (b_alloc HBq9.out _)) (fun hHeld => ?_)
            clear hK K
            (try simp only [Act.put, List.getElem_toArray, List.getElem_cons_succ, List.getElem_cons_zero, List.setIfInBounds_toArray, List.set_cons_zero, List.set_cons_succ])
            refine wpAnyH_named ?_
            intro q10 hn
            have HBq10 : Hid (Below W2.heap.size W2 q10) := Lib.hid (by rw [hn]; exact b_alloc HBq9.out _)
            have HWq10 : Hid (ReadR strE q10 (.slice (some ⟨q9.heap.size, 0, none⟩) 4 4) [sFunc, kp, kl, kr]) := Lib.hid (by rw [hn]; exact readS rfl rfl (by simp))
            clear hn
            replace hHeld := HC2.out _ HBq10.out
            refine wpAnyH_ready (rs := [12]) (by kernel_rfl) (by simp) (AllReadyH.cons rfl (fun K hK => ?_) AllReadyH.nil)
            go_simp
            refine (put_any _ (prAt_below HPW2.out HBq10.out) HWq10.out (by simp) (by simp) (by omega) (by omega)).mono ?_
            rintro e q11 ⟨rfl, hp, ho⟩
            have HPq11 := Lib.hid hp
            have HRq11 : Hid (q11.heap[WR.heap.size]? = _) := Lib.hid (oth_blk ho (raw_below HRAW.out HBq10.out) HLT2.out (by decide))
            clear hp ho
            have hS : q11.cell? ⟨WR.heap.size, 0, none⟩ = some (.slice pa pn pc) ∧ q11.cell? ⟨WR.heap.size, 1, none⟩ = some (.slice xa xn xc) ∧ q11.cell? ⟨WR.heap.size, 2, none⟩ = some (.int .i64 r) := by
              obtain ⟨z0, z1, z2, _⟩ := blk4 (blk_raw HRq11.out)
              exact ⟨z0, z1, z2⟩
            refine hK.out _ _ (hS) (fun hHeld => ?_)
            clear hK K
            (try simp only [Act.put, List.getElem_toArray, List.getElem_cons_succ, List.getElem_cons_zero, List.setIfInBounds_toArray, List.set_cons_zero, List.set_cons_succ])
            refine wpAnyH_done (by kernel_rfl) ?_ _
            go_wp2_with fail
            go_meet
            case rel => exact ⟨rfl, rfl, Lib.hid (by rw [HHD.out]; exact HPq11.out), HRq11⟩
        · skip
          go_simp
          refine hK.out _ _ (HC2.out _ (b_alloc HBq0.out _)) (fun hHeld => ?_)
          clear hK K
          (try simp only [Act.put, List.getElem_toArray, List.getElem_cons_succ, List.getElem_cons_zero, List.setIfInBounds_toArray, List.set_cons_zero, List.set_cons_succ])
          refine wpAnyH_named ?_
          intro q12 hn
          have HBq12 : Hid (Below W2.heap.size W2 q12) := Lib.hid (by rw [hn]; exact b_alloc HBq0.out _)
          have HYq12 : Hid (ReadI q12 (.slice (some ⟨q0.heap.size, 0, none⟩) 1 1) [r]) := Lib.hid (by rw [hn]; exact read_one q0 r)
          clear hn
          replace hHeld := HC2.out _ HBq12.out
          refine wpAnyH_ready (rs := [3]) (by kernel_rfl) (by simp) (AllReadyH.cons rfl (fun K hK => ?_) AllReadyH.nil)
          go_simp
          refine (HK1.out _ (b_call HBW2.out HBq12.out)).mono ?_
          rintro e q13 ⟨rfl, hn⟩
          have HBq13 := Lib.hid (b_call HBq12.out hn)
          have HYq13 := Lib.hid (readI_below HYq12.out hn)
          clear hn
          refine hK.out _ _ (HC2.out _ HBq13.out) (fun hHeld => ?_)
          clear hK K
          (try simp only [Act.put, List.getElem_toArray, List.getElem_cons_succ, List.getElem_cons_zero, List.setIfInBounds_toArray, List.set_cons_zero, List.set_cons_succ])
          refine wpAnyH_ready (rs := [6]) (by kernel_rfl) (by simp) (AllReadyH.cons rfl (fun K hK => ?_) AllReadyH.nil)
          go_simp
          refine (HK2.out _ (b_call HBW2.out HBq13.out)).mono ?_
          rintro e q14 ⟨rfl, hn⟩
          have HBq14 := Lib.hid (b_call HBq13.out hn)
          have HYq14 := Lib.hid (readI_below HYq13.out hn)
          clear hn
          refine hK.out _ _ (HC2.out _ HBq14.out) (fun hHeld => ?_)
          clear hK K
          (try simp only [Act.put, List.getElem_toArray, List.getElem_cons_succ, List.getElem_cons_zero, List.setIfInBounds_toArray, List.set_cons_zero, List.set_cons_succ])
          refine wpAnyH_ready (rs := [10]) (by kernel_rfl) (by simp) (AllReadyH.cons rfl (fun K hK => ?_) AllReadyH.nil)
          go_simp
          refine (HK3.out _ HYq14.out).mono ?_
          rintro e q15 ⟨rfl, hn⟩
          have HBq15 := Lib.hid (b_call HBq14.out hn)
          clear hn
          refine hK.out _ _ (HC2.out _ HBq15.out) (fun hHeld => ?_)
          clear hK K
          (try simp only [Act.put, List.getElem_toArray, List.getElem_cons_succ, List.getElem_cons_zero, List.setIfInBounds_toArray, List.set_cons_zero, List.set_cons_succ])
          refine wpAnyH_ready (rs := [11]) (by kernel_rfl) (by simp) (AllReadyH.cons rfl (fun K hK => ?_) AllReadyH.nil)
          go_simp
          refine hK.out _ _ (HC2.out _ (b_alloc HBq15.out _)) (fun hHeld => ?_)
          clear hK K
          (try simp only [Act.put, List.getElem_toArray, List.getElem_cons_succ, List.getElem_cons_zero, List.setIfInBounds_toArray, List.set_cons_zero, List.set_cons_succ])
          refine wpAnyH_named ?_
          intro q16 hn
          have HBq16 : Hid (Below W2.heap.size W2 q16) := Lib.hid (by rw [hn]; exact b_alloc HBq15.out _)
          have HWq16 : Hid (ReadR strE q16 (.slice (some ⟨q15.heap.size, 0, none⟩) 4 4) [sFunc, kp, kl, kr]) := Lib.hid (by rw [hn]; exact readS rfl rfl (by simp))
          clear hn
          replace hHeld := HC2.out _ HBq16.out
          refine wpAnyH_ready (rs := [12]) (by kernel_rfl) (by simp) (AllReadyH.cons rfl (fun K hK => ?_) AllReadyH.nil)
          go_simp
          refine (put_any _ (prAt_below HPW2.out HBq16.out) HWq16.out (by simp) (by simp) (by omega) (by omega)).mono ?_
          rintro e q17 ⟨rfl, hp, ho⟩
          have HPq17 := Lib.hid hp
          have HRq17 : Hid (q17.heap[WR.heap.size]? = _) := Lib.hid (oth_blk ho (raw_below HRAW.out HBq16.out) HLT2.out (by decide))
          clear hp ho
          have hS : q17.cell? ⟨WR.heap.size, 0, none⟩ = some (.slice pa pn pc) ∧ q17.cell? ⟨WR.heap.size, 1, none⟩ = some (.slice xa xn xc) ∧ q17.cell? ⟨WR.heap.size, 2, none⟩ = some (.int .i64 r) := by
            obtain ⟨z0, z1, z2, _⟩ := blk4 (blk_raw HRq17.out)
            exact ⟨z0, z1, z2⟩
          refine hK.out _ _ (hS) (fun hHeld => ?_)
          clear hK K
          (try simp only [Act.put, List.getElem_toArray, List.getElem_cons_succ, List.getElem_cons_zero, List.setIfInBounds_toArray, List.set_cons_zero, List.set_cons_succ])
          refine wpAnyH_done (by kernel_rfl) ?_ _
          go_wp2_with fail
          go_meet
          case rel => exact ⟨rfl, rfl, Lib.hid (by rw [HHD.out]; exact HPq17.out), HRq17⟩
      case rest =>
      obtain ⟨rfl, rfl, HP3, HR3⟩ := hcut
      obtain ⟨W5, hW5⟩ : ∃ x, x = wc := ⟨_, rfl⟩
      subst hW5
      obtain ⟨t1, ht1⟩ : ∃ t1, t1 = t ++ headL f := ⟨_, rfl⟩
      have ht1l : t1.length ≤ 140 + 4000 * k := by rw [ht1, List.length_append]; omega
      rw [← ht1] at HP3
      have HT1 := Lib.hid ht1
      clear ht1
      obtain ⟨x0, x1, x2, x3, xf⟩ := blk4 (blk_raw HR3.out)
      have xz := (blk_raw HR3.out).1
      go_wp2_with fail
      go_loopw [56] (fun j wq => ∃ n : Nat, n ≤ f.code.length ∧ j = .int .i64 n ∧ ∃ z : List UInt8, z.length ≤ 140 + 4000 * k + 30 * n ∧ Hid (z = t1 ++ codeL (f.code.take n)) ∧ Hid (PrAt W1 wq z)) (fun j _ => f.code.length - (intOf j).toNat)
      case atStart => exact ⟨0, Nat.zero_le _, rfl, t1, by omega, Lib.hid (by simp [codeL]), HP3⟩
      case round =>
        clear x0 x1 x2 x3 xf xz
        obtain ⟨n, hn, rfl, z, hzl, HZ, HPQ⟩ := hrel
        have hn0 : (0 : Int) ≤ n := by omega
        have hzl2 : z.length ≤ 80000 := by omega
        by_cases hnt : n < f.code.length
        · have hn1 : (n : Int) < f.code.length := by omega
          have hnc : (n : Int) < cc := by omega
          obtain ⟨bl, off, cp, e1, r1, r2, hbl, r4⟩ := readR_pos (readR_below HDC.out (b_call HW1.out HPQ.out.be)) (by omega)
          injection e1 with e1 e1b e3
          subst e1
          have d0 : wr.cell? ⟨bl, off + n * 4, none⟩ = some (.int .i64 f.code[n].op) := r4 n hnt 0 (by decide)
          have d1 : wr.cell? ⟨bl, off + n * 4 + 1, none⟩ = some (.int .u64 f.code[n].x) := r4 n hnt 1 (by decide)
          have d2 : wr.cell? ⟨bl, off + n * 4 + 2, none⟩ = some (.int .i64 f.code[n].a) := r4 n hnt 2 (by decide)
          have d3 : wr.cell? ⟨bl, off + n * 4 + 3, none⟩ = some (.int .i64 f.code[n].b) := r4 n hnt 3 (by decide)
          have HMI := Lib.hid (HMC.out f.code[n] (List.getElem_mem hnt))
          have HGI := Lib.hid (HGK.out f.code[n] (List.getElem_mem hnt))
          have HZK : Hid (t1 ++ codeL (f.code.take (n + 1)) = z ++ (lineL f.code[n] ++ [10])) := Lib.hid (by
            rw [List.take_succ_eq_append_getElem hnt, HZ.out]
            unfold codeL
            rw [List.flatMap_append, List.append_assoc]
            simp)
          generalize f.code[n] = ii at *
          obtain ⟨op, x, a, b⟩ := ii
          simp only at d0 d1 d2 d3 HMI
          have hgx := HGI.out
          obtain ⟨hgx0, hgx1⟩ := hgx
          simp only at hgx0 hgx1
          obtain ⟨_, ⟨_, ha2⟩, _, hb2⟩ := may_bd HMI.out
          have hli := line_len (i := ⟨op, x, a, b⟩) ha2 hb2
          have HLN : Hid (∀ w, Calls Tryd.prog 13 #[.agg #[.int .i64 op, .int .u64 x, .int .i64 a, .int .i64 b]] w fun e w' => e = .returned (.tuple #[strV (lineL ⟨op, x, a, b⟩), .int .i64 0]) ∧ Below w.heap.size w w') := Lib.hid (fun w => aline_yes op x a b HMI.out hgx0 hgx1 w)
          unfold strV at HLN
          generalize lineL ⟨op, x, a, b⟩ = li at *
          clear r4 r1 r2 e1b e3 hgx0 hgx1 ha2 hb2
          go_upto_region 16 with fail
          refine wp_named ?_
          intro W4 hW4
          have HX4 : Hid (Blk W4 wr.heap.size [.int .i64 op, .int .u64 x, .int .i64 a, .int .i64 b]) := Lib.hid (by rw [hW4]; exact blk_new _ _ _)
          have HP4 : Hid (PrAt W1 W4 z) := Lib.hid (by rw [hW4]; exact prAt_below HPQ.out (b_alloc (Below.refl _ _) _))
          clear hW4 d0 d1 d2 d3 hbl
          obtain ⟨x0, x1, x2, x3, xf⟩ := blk4 HX4.out
          have xz := HX4.out.1
          go_wp2_with fail
          refine (HLN.out _).mono ?_
          rintro e w5 ⟨rfl, hb5⟩
          have HP5 := Lib.hid (prAt_below HP4.out hb5)
          clear hb5
          go_wp2_with fail
          refine (put_any (xs := [li]) _ (prAt_below HP5.out (b_alloc (Below.refl _ _) _)) (readS rfl rfl (by simp)) (by simp) (by simp) (by omega) (by rw [join1]; omega)).mono ?_
          rintro e w6 ⟨rfl, hp6, _⟩
          rw [join1] at hp6
          have HP6 := Lib.hid hp6
          clear hp6
          go_wp2_with fail
          go_roundw
          case rel => exact ⟨n + 1, by omega, by first | rfl | go_num, z ++ (li ++ [10]), by simp; omega, Lib.hid HZK.out.symm, HP6⟩
          case measure => simp [intOf] <;> omega
        · have HZE : Hid (z = t ++ funcL f) := Lib.hid (by
            rw [HZ.out, List.take_of_length_le (by omega), HT1.out, List.append_assoc]; rfl)
          go_wp2_with fail
          go_roundw
          case rel => exact ⟨k + 1, by omega, by first | rfl | go_num, z, by omega, Lib.hid (by rw [HZE.out]; exact ((HTK.out (funcL f)).2 rfl).symm), HPQ⟩
          case measure => simp [intOf] <;> omega
    · have HE : Hid (t = printL P) := Lib.hid (by
        rw [HT.out, List.take_of_length_le (by have := HFS.out; omega)]; rfl)
      go_wp2_with fail
      refine (Tryd.Builder_String_any_k W1.heap.size W1.heap.size _ _ HPR.out.bl HPR.out.be.size).mono ?_
      rintro e w8 ⟨rfl, _, hb8, _⟩
      have HB8 : Hid (Below w.heap.size w w8) := Lib.hid (b_call HW1.out (HPR.out.be.trans hb8))
      clear hb8
      go_wp2_with fail
      go_ret2
      exact ⟨by rw [← HE.out]; rfl, HB8.out⟩
end Go.Proofs.YtedmjlhgpdeafaaDoor
