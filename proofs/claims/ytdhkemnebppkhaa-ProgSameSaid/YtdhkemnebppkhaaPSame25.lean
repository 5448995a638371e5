/- ProgSame, walked: whatever the program, the function, the local, the kind and the instruction, the answer is true. Conditions: the program reads as lists, numbers are of their kinds. -/
import Derived.Test.YtdhkemnebppkhaaSameM25
import Derived.Test.YtdhkemnebppkhaaPBytes25
import Derived.Laws.Bits128
namespace Go.Proofs.Ytdhkemnebppkhaa
open Go.RowKit
set_option linter.unusedVariables false
set_option linter.unusedSimpArgs false
attribute [local go_sem] over_cell over_frozen
theorem eqRIn (o1 x1 a1 b1 o2 x2 a2 b2 : Int) (w : World) : (binOp .eql 24 (.agg #[.int .i64 o1, .int .u64 x1, .int .i64 a1, .int .i64 b1]) (.agg #[.int .i64 o2, .int .u64 x2, .int .i64 a2, .int .i64 b2])).run Try.prog w = .ok (.bool (o1 == o2 && (x1 == x2 && (a1 == a2 && b1 == b2)))) w := by
  have hS : Try.prog.underlying 24 = some (.struct (Try.prog.fieldsOf 24)) := by kernel_rfl
  have hp : Try.prog.stoodInHeld 24 = false := by kernel_rfl
  rw [run_eql_struct, show (10000 : Nat) = 9999 + 1 from rfl, run_equalIn_agg w 9999 _ _ _ hS hp]
  simp only [Program.fieldsOf, Try.underlying24]
  go_simp
  by_cases h1 : o1 = o2 <;> by_cases h2 : x1 = x2 <;> by_cases h3 : a1 = a2 <;> by_cases h4 : b1 = b2 <;> simp [h1, h2, h3, h4]
theorem guardRIn (op : BinOp) (a b : Operand) (xs ys : Array Value) (w : World) : Sem.run Try.prog (eqGuard op 24 a b (.agg xs) (.agg ys)) w = .ok () w := run_eqGuard_agg w op _ a b xs ys (by kernel_rfl)
theorem i64_and15 (n : Int) : bits .and .i64 n 15 = n % 16 := by
  have h15 : (BitVec.ofInt 64 15).toNat = 2 ^ 4 - 1 := by decide
  have key : (BitVec.ofInt 64 n &&& BitVec.ofInt 64 15).toNat = (n % ((2 ^ 64 : Nat) : Int)).toNat % 2 ^ 4 := by
    rw [BitVec.toNat_and, BitVec.toNat_ofInt, h15, Nat.and_two_pow_sub_one_eq_mod]
  show IntKind.i64.wrap ((BitVec.ofInt 64 n &&& BitVec.ofInt 64 15).toNat : Nat) = n % 16
  rw [key, IntKind.wrap_i64]
  omega
theorem fn_blk {w : World} {g : Nat} {L : List FnV} (h : Blk w g (fnE.row L)) (k : Nat) (hk : k < L.length) : w.cell? ⟨g, k * 4, none⟩ = some L[k].p.v ∧ w.cell? ⟨g, k * 4 + 1, none⟩ = some L[k].l.v ∧ w.cell? ⟨g, k * 4 + 2, none⟩ = some (.int .i64 L[k].r) ∧ w.cell? ⟨g, k * 4 + 3, none⟩ = some L[k].c.v := by
  have hs : fnE.size = 4 := rfl
  have key : ∀ r, r < 4 → w.cell? ⟨g, k * 4 + r, none⟩ = (fnE.cells L[k])[r]? := fun r hr => by
    have e1 := row_at fnE L k hk r (by rw [hs]; exact hr)
    rw [hs] at e1
    have l1 : k * 4 + r < (fnE.row L).length := by rw [row_length, hs]; omega
    rw [← e1, List.getElem?_eq_getElem l1, ← h.2.1 _ l1]
  exact ⟨key 0 (by omega), key 1 (by omega), key 2 (by omega), key 3 (by omega)⟩
theorem in_blk {w : World} {g : Nat} {L : List In4} (h : Blk w g (inE.row L)) (k : Nat) (hk : k < L.length) : w.cell? ⟨g, k * 4, none⟩ = some (.int .i64 L[k].op) ∧ w.cell? ⟨g, k * 4 + 1, none⟩ = some (.int .u64 L[k].x) ∧ w.cell? ⟨g, k * 4 + 2, none⟩ = some (.int .i64 L[k].a) ∧ w.cell? ⟨g, k * 4 + 3, none⟩ = some (.int .i64 L[k].b) := by
  have hs : inE.size = 4 := rfl
  have key : ∀ r, r < 4 → w.cell? ⟨g, k * 4 + r, none⟩ = (inE.cells L[k])[r]? := fun r hr => by
    have e1 := row_at inE L k hk r (by rw [hs]; exact hr)
    rw [hs] at e1
    have l1 : k * 4 + r < (inE.row L).length := by rw [row_length, hs]; omega
    rw [← e1, List.getElem?_eq_getElem l1, ← h.2.1 _ l1]
  exact ⟨key 0 (by omega), key 1 (by omega), key 2 (by omega), key 3 (by omega)⟩
theorem allTB_at {B : Nat} {w : World} : ∀ {vs : List FnV} {fs : List FnM}, AllTB B w vs fs → ∀ k (h : k < vs.length) (h' : k < fs.length), (DeepF w vs[k] fs[k] ∧ FnT w vs[k]) ∧ OwnC B w vs[k] fs[k]
  | v :: vs, f :: fs, h, 0, _, _ => h.1
  | v :: vs, f :: fs, h, k + 1, hk, hk' => allTB_at h.2 k (by simpa using hk) (by simpa using hk')
set_option maxRecDepth 1000000 in
set_option maxHeartbeats 8000000 in
theorem progSame_any (p : PrV) (P : PrM) (k at_ kind iop ix ia ib : Int) (w : World) (h : ReadP w p P) :
    Calls Try.prog 7 #[aggP p, .int .i64 k, .int .i64 at_, .int .i64 kind, .agg #[.int .i64 iop, .int .u64 ix, .int .i64 ia, .int .i64 ib]] w fun e w' => e = .returned (.bool true) ∧ Below w.heap.size w w' := by
  have H := Lib.hid h
  obtain ⟨C, hC⟩ : ∃ C, C = cutP P := ⟨_, rfl⟩
  have HC := Lib.hid hC
  have HSM : Hid (SmallP C) := by show SmallP C; rw [hC]; exact small_cut P
  obtain ⟨u, ⟨ga, gn, gc⟩, m, ⟨fa, fn, fc⟩⟩ := p
  clear h hC
  unfold aggP Sl.v
  simp only
  have HB0 := Lib.hid (b_alloc (b_alloc (Below.refl w.heap.size w) (.cells #[.bool u, .slice ga gn gc, .int .i64 m, .slice fa fn fc] 54)) (.cells #[.int .i64 iop, .int .u64 ix, .int .i64 ia, .int .i64 ib] 24))
  have HX0 := Lib.hid (blk_alloc (blk_new w #[.bool u, .slice ga gn gc, .int .i64 m, .slice fa fn fc] 54) (.cells #[.int .i64 iop, .int .u64 ix, .int .i64 ia, .int .i64 ib] 24))
  have HI0 : Hid (Blk ((w.alloc (.cells #[.bool u, .slice ga gn gc, .int .i64 m, .slice fa fn fc] 54)).alloc (.cells #[.int .i64 iop, .int .u64 ix, .int .i64 ia, .int .i64 ib] 24)) (w.heap.size + 1) [.int .i64 iop, .int .u64 ix, .int .i64 ia, .int .i64 ib]) := Lib.hid (blk_new2 (by simp))
  go_enter Try.func7, Try.ntmps7
  go_wp2_with fail
  refine (cut_made ⟨u, ⟨ga, gn, gc⟩, m, ⟨fa, fn, fc⟩⟩ P w _ H.out HB0.out).mono ?_
  rintro e w1 ⟨q, rfl, hcm, hb1⟩
  rw [← HC.out] at hcm
  obtain ⟨qu, ⟨qa, qn, qc⟩, qm, ⟨ra, rn, rc⟩⟩ := q
  have BX1 := blk_below HX0.out hb1
  have HI1 := Lib.hid (blk_below HI0.out hb1)
  have HB1 := Lib.hid (b_call HB0.out hb1)
  have HCM := Lib.hid hcm
  have hl1 := BX1.1
  have HX1 := Lib.hid BX1
  obtain ⟨c0, c1, c2, c3, cf⟩ := blk4 BX1
  clear hcm hb1 BX1
  unfold aggP Sl.v
  simp only
  go_upto_region 2 with fail
  refine wp_named ?_
  intro W hW
  have BW : Blk W w.heap.size [.bool qu, .slice qa qn qc, .int .i64 qm, .slice ra rn rc] := by rw [hW]; exact blk_set (blk_set (blk_set (blk_set HX1.out 0 _) 1 _) 2 _) 3 _
  have BI : Blk W (w.heap.size + 1) [.int .i64 iop, .int .u64 ix, .int .i64 ia, .int .i64 ib] := by rw [hW]; exact blk_other (blk_other (blk_other (blk_other HI1.out (by simp) _) (by simp) _) (by simp) _) (by simp) _
  have GW := gb_set (gb_set (gb_set (gb_set (gb_refl w1 (some w.heap.size)) 0 none (.bool qu)) 1 none (.slice qa qn qc)) 2 none (.int .i64 qm)) 3 none (.slice ra rn rc)
  rw [← hW] at GW
  have hBW : Below w.heap.size w W := b_grown HB1.out GW (Nat.le_refl _)
  have RW : ReadP W ⟨qu, ⟨qa, qn, qc⟩, qm, ⟨ra, rn, rc⟩⟩ C := cutMade_read (cutMade_grown HCM.out GW (by simp only [World.size_alloc]; omega)) hBW
  have HR := Lib.hid RW
  have HBW := Lib.hid hBW
  have HWS := Lib.hid BI.1
  have HK : Hid (∀ w', Below W.heap.size W w' → w'.cell? ⟨w.heap.size, 0, none⟩ = some (.bool qu) ∧ w'.cell? ⟨w.heap.size, 1, none⟩ = some (.slice qa qn qc) ∧ w'.cell? ⟨w.heap.size, 2, none⟩ = some (.int .i64 qm) ∧ w'.cell? ⟨w.heap.size, 3, none⟩ = some (.slice ra rn rc)) := Lib.hid (fun w' hb => by
    obtain ⟨y0, y1, y2, y3, _⟩ := blk4 (blk_below BW hb); exact ⟨y0, y1, y2, y3⟩)
  have HKI : Hid (∀ w', Below W.heap.size W w' → w'.cell? ⟨w.heap.size + 1, 0, none⟩ = some (.int .i64 iop) ∧ w'.cell? ⟨w.heap.size + 1, 1, none⟩ = some (.int .u64 ix) ∧ w'.cell? ⟨w.heap.size + 1, 2, none⟩ = some (.int .i64 ia) ∧ w'.cell? ⟨w.heap.size + 1, 3, none⟩ = some (.int .i64 ib)) := Lib.hid (fun w' hb => by
    obtain ⟨y0, y1, y2, y3, _⟩ := blk4 (blk_below BI hb); exact ⟨y0, y1, y2, y3⟩)
  clear hW GW hBW RW c0 c1 c2 c3 cf BW BI HX1 HI1 hl1 HCM HB1 HB0 HX0 HI0 H HC
  obtain ⟨c0, c1, c2, c3⟩ := HK.out W (Below.refl _ _)
  obtain ⟨t, ht⟩ : ∃ t, t = mayP C := ⟨_, rfl⟩
  have HT := Lib.hid ht
  clear ht
  go_wp2_with fail
  refine (rmay25_any ⟨qu, ⟨qa, qn, qc⟩, qm, ⟨ra, rn, rc⟩⟩ C _ HR.out).mono ?_
  rintro e w2 ⟨rfl, hb2⟩
  rw [← HT.out]
  have HB2 := Lib.hid hb2
  clear hb2 c0 c1 c2 c3
  obtain ⟨c0, c1, c2, c3⟩ := HK.out w2 HB2.out
  cases t
  · go_wp2_with fail
    refine (awake25 _).mono ?_
    rintro e w8 ⟨rfl, hb8⟩
    have HB9 := Lib.hid (b_call HBW.out (b_call HB2.out hb8))
    clear hb8
    go_wp2_with fail
    go_ret
    exact ⟨rfl, HB9.out⟩
  have OK := Lib.hid (okP_of HT.out.symm)
  go_wp2_with fail
  refine (ours25_made ⟨qu, ⟨qa, qn, qc⟩, qm, ⟨ra, rn, rc⟩⟩ C _ (readP_below HR.out HB2.out) HSM.out).mono ?_
  rintro e w3 ⟨o, rfl, ho, hb3⟩
  obtain ⟨ou, ⟨oa, on, oc⟩, om, ⟨fa, fn, fc⟩⟩ := o
  obtain ⟨hou, hom, hog, hos, L, own, all⟩ := ho
  have own : OwnR fnE FUNT w3 w2.heap.size (.slice fa fn fc) L := own
  have hlen : L.length = C.fs.length := allF_len (allT_F (allTB_T all))
  have hL1 : 1 ≤ L.length := by have := OK.out.f1; omega
  have hL16 : L.length ≤ 16 := by have := OK.out.f2; omega
  have hty := ownR_ty own
  obtain ⟨fb, cap, e1, hfB, hfl, hlc, hcm, hfblk⟩ := ownR_form own (by omega)
  cases e1
  have HTF : Hid (tyB w3 fb = some FUNT) := Lib.hid (hty fb rfl)
  have HFB := Lib.hid hfblk
  have HFBL := Lib.hid (show W.heap.size ≤ fb ∧ fb < w3.heap.size by have := HB2.out.size; exact ⟨by omega, hfl⟩)
  have HLC := Lib.hid (show L.length ≤ fc ∧ fc ≤ maxLen from ⟨hlc, hcm⟩)
  have HLEN := Lib.hid hlen
  have HOU := Lib.hid hou; have HOM := Lib.hid hom; have HOG := Lib.hid hog; have HOS := Lib.hid hos; have HALL := Lib.hid all
  have HB3 := Lib.hid (b_call HB2.out hb3)
  have h23 := hb3.size
  have hcm2 := cap_le hcm
  clear hou hom hog hos all own hb3 hty hfB hfblk hlen hfl hcm c0 c1 c2 c3
  unfold aggP Sl.v
  simp only
  have HX3 := Lib.hid (blk_new w3 #[.bool ou, .slice oa on oc, .int .i64 om, .slice (some ⟨fb, 0, none⟩) L.length fc] PROT)
  have HA3 := Lib.hid (b_alloc (Below.refl w3.heap.size w3) (.cells #[.bool ou, .slice oa on oc, .int .i64 om, .slice (some ⟨fb, 0, none⟩) L.length fc] PROT))
  go_upto_region 5 with fail
  refine wp_named ?_
  intro W4 hW4
  have hX4 : Blk W4 w3.heap.size [.bool ou, .slice oa on oc, .int .i64 om, .slice (some ⟨fb, 0, none⟩) L.length fc] := by rw [hW4]; exact HX3.out
  have HB4 := Lib.hid (show Below w3.heap.size w3 W4 by rw [hW4]; exact HA3.out)
  have HX4 := Lib.hid hX4
  have hs4 := hX4.1
  clear hW4 HX3 HA3
  obtain ⟨c0, c1, c2, c3, cf⟩ := blk4 hX4
  clear hX4
  have hlz : (L.length : Int) ≠ 0 := by omega
  have hLne : ¬ L = [] := by intro e; rw [e] at hL1; simp at hL1
  obtain ⟨kn, hkn, hk16⟩ : ∃ kn : Nat, bits BinOp.and IntKind.i64 k 15 = (kn : Int) ∧ kn < 16 := ⟨(k % 16).toNat, by rw [i64_and15]; omega, by omega⟩
  obtain ⟨j, hj⟩ : ∃ j, j = kn % L.length := ⟨_, rfl⟩
  have hjL : j < L.length := by rw [hj]; exact Nat.mod_lt _ hL1
  have hm1 : (kn : Int).tmod (L.length : Int) = (j : Int) := by rw [hj]; rfl
  have hm2 : (kn : Int) % (L.length : Int) = (j : Int) := by rw [hj]; rfl
  clear hj
  have hjC : j < C.fs.length := by rw [← HLEN.out]; exact hjL
  have hjL2 : (j : Int) < L.length := by omega
  have hj0 : (0 : Int) ≤ j := by omega
  obtain ⟨v, hv⟩ : ∃ v, v = L[j] := ⟨_, rfl⟩
  obtain ⟨f, hf⟩ : ∃ f, f = C.fs[j] := ⟨_, rfl⟩
  obtain ⟨⟨hdf, htf⟩, hoc⟩ := allTB_at HALL.out j hjL hjC
  have hcs := fn_blk HFB.out j hjL
  have hsf := OK.out.f _ (List.getElem_mem hjC)
  rw [← hv, ← hf] at hdf hoc
  rw [← hv] at htf hcs
  rw [← hf] at hsf
  have HV := Lib.hid hv; have HF := Lib.hid hf
  clear hv hf
  obtain ⟨⟨pa, pn, pc⟩, ⟨la, ln, lc⟩, r, ⟨ca, cn, cc⟩⟩ := v
  obtain ⟨ps, ls, r', code⟩ := f
  obtain ⟨dp, dl, dr, dc⟩ := hdf
  simp only at dr
  subst dr
  have hc1 : 1 ≤ code.length := hsf.c1
  have hc96 : code.length ≤ 96 := hsf.c2
  have hcne : ¬ code = [] := by intro e; rw [e] at hc1; simp at hc1
  have hclz : (code.length : Int) ≠ 0 := by omega
  have hp8 : ps.length ≤ 8 := hsf.p
  have hl8 : ls.length ≤ 8 := hsf.l
  have hoc : OwnR inE INST w3 w2.heap.size (.slice ca cn cc) code := hoc
  have hcty := ownR_ty hoc
  obtain ⟨kb, ccap, e2, hkB, hkl, hclc, hccm, hkblk⟩ := ownR_form hoc (by omega)
  cases e2
  have HTK : Hid (tyB w3 kb = some INST) := Lib.hid (hcty kb rfl)
  have HKB := Lib.hid hkblk
  have HKBL := Lib.hid (show W.heap.size ≤ kb ∧ kb < w3.heap.size by have := HB2.out.size; exact ⟨by omega, hkl⟩)
  have hcc2 := cap_le hccm
  have HDP := Lib.hid (show ReadI w3 (.slice pa pn pc) ps from dp); have HDL := Lib.hid (show ReadI w3 (.slice la ln lc) ls from dl); have HDC := Lib.hid (show ReadR inE w3 (.slice (some ⟨kb, 0, none⟩) code.length cc) code from dc)
  have HSF : Hid (SmallF ⟨ps, ls, r, code⟩) := Lib.hid ⟨by show ps.length ≤ 10; omega, by show ls.length ≤ 10; omega, by show code.length ≤ 100; omega⟩
  unfold Sl.v at hcs
  simp only at hcs
  have HS5 : Hid (∀ w', Below W4.heap.size W4 w' → w'.cell? ⟨w3.heap.size, 3, none⟩ = some (.slice (some ⟨fb, 0, none⟩) L.length fc) ∧ w'.cell? ⟨fb, j * 4, none⟩ = some (.slice pa pn pc) ∧ w'.cell? ⟨fb, j * 4 + 1, none⟩ = some (.slice la ln lc) ∧ w'.cell? ⟨fb, j * 4 + 2, none⟩ = some (.int .i64 r) ∧ w'.cell? ⟨fb, j * 4 + 3, none⟩ = some (.slice (some ⟨kb, 0, none⟩) code.length cc)) := Lib.hid (fun w' hb => by
    obtain ⟨y0, y1, y2, y3, _⟩ := blk4 (blk_below HX4.out hb)
    have hc := (bcell (b_call HB4.out hb)).1
    refine ⟨y3, ?_, ?_, ?_, ?_⟩
    · rw [hc _ _ HFBL.out.2]; exact hcs.1
    · rw [hc _ _ HFBL.out.2]; exact hcs.2.1
    · rw [hc _ _ HFBL.out.2]; exact hcs.2.2.1
    · rw [hc _ _ HFBL.out.2]; exact hcs.2.2.2)
  have HKL := Lib.hid hkl
  clear hsf dp dl dc hoc hcty hkblk hkB hccm hcs c0 c1 c2 c3 cf htf hkl
  go_cut [12] (fun s wx => ∃ x, s = .pointer (some ⟨x, 0, none⟩) ∧ W4.heap.size ≤ x ∧ Blk wx x [.slice pa pn pc, .slice la ln lc, .int .i64 r, .slice (some ⟨kb, 0, none⟩) code.length cc] ∧ Below W4.heap.size W4 wx)
  case first =>
    refine wp_region_held_drew (S := (fun w' => w'.cell? ⟨w3.heap.size, 3, none⟩ = some (.slice (some ⟨fb, 0, none⟩) L.length fc) ∧ w'.cell? ⟨fb, j * 4, none⟩ = some (.slice pa pn pc) ∧ w'.cell? ⟨fb, j * 4 + 1, none⟩ = some (.slice la ln lc) ∧ w'.cell? ⟨fb, j * 4 + 2, none⟩ = some (.int .i64 r) ∧ w'.cell? ⟨fb, j * 4 + 3, none⟩ = some (.slice (some ⟨kb, 0, none⟩) code.length cc))) (by kernel_rfl) (HS5.out _ (b_drew (Below.refl _ _))) (fun hHeld => ?_)
    (refine wpAnyH_take (i := 0) (v := ?_) rfl (by kernel_rfl) (by kernel_rfl) (by kernel_rfl) (fun _ _ _ h => h) (Or.inl ⟨by rfl, ?_⟩) hHeld ?_; rotate_left; (focus (intro w hSw; (try dsimp only at hSw); go_simp; try (with_reducible rfl))); (try simp only [Act.put, List.getElem_toArray, List.getElem_cons_succ, List.getElem_cons_zero, List.setIfInBounds_toArray, List.set_cons_zero, List.set_cons_succ]))
    (refine wpAnyH_take (i := 1) (v := ?_) rfl (by kernel_rfl) (by kernel_rfl) (by kernel_rfl) (fun _ _ _ h => h) (Or.inl ⟨by rfl, ?_⟩) hHeld ?_; rotate_left; (focus (intro w hSw; (try dsimp only at hSw); go_simp; try (with_reducible rfl))); (try simp only [Act.put, List.getElem_toArray, List.getElem_cons_succ, List.getElem_cons_zero, List.setIfInBounds_toArray, List.set_cons_zero, List.set_cons_succ]))
    (refine wpAnyH_take (i := 2) (v := ?_) rfl (by kernel_rfl) (by kernel_rfl) (by kernel_rfl) (fun _ _ _ h => h) (Or.inl ⟨by rfl, ?_⟩) hHeld ?_; rotate_left; (focus (intro w hSw; (try dsimp only at hSw); go_simp; try (with_reducible rfl))); (try simp only [Act.put, List.getElem_toArray, List.getElem_cons_succ, List.getElem_cons_zero, List.setIfInBounds_toArray, List.set_cons_zero, List.set_cons_succ]))
    (refine wpAnyH_take (i := 3) (v := ?_) rfl (by kernel_rfl) (by kernel_rfl) (by kernel_rfl) (fun _ _ _ h => h) (Or.inl ⟨by rfl, ?_⟩) hHeld ?_; rotate_left; (focus (intro w hSw; (try dsimp only at hSw); go_simp; try (with_reducible rfl))); (try simp only [Act.put, List.getElem_toArray, List.getElem_cons_succ, List.getElem_cons_zero, List.setIfInBounds_toArray, List.set_cons_zero, List.set_cons_succ]))
    (refine wpAnyH_take (i := 4) (v := ?_) rfl (by kernel_rfl) (by kernel_rfl) (by kernel_rfl) (fun _ _ _ h => h) (Or.inl ⟨by rfl, ?_⟩) hHeld ?_; rotate_left; (focus (intro w hSw; (try dsimp only at hSw); go_simp; try (with_reducible rfl))); (try simp only [Act.put, List.getElem_toArray, List.getElem_cons_succ, List.getElem_cons_zero, List.setIfInBounds_toArray, List.set_cons_zero, List.set_cons_succ]))
    (refine wpAnyH_take (i := 5) (v := ?_) rfl (by kernel_rfl) (by kernel_rfl) (by kernel_rfl) (fun _ _ _ h => h) (Or.inl ⟨by rfl, ?_⟩) hHeld ?_; rotate_left; (focus (intro w hSw; (try dsimp only at hSw); go_simp; try (with_reducible rfl))); (try simp only [Act.put, List.getElem_toArray, List.getElem_cons_succ, List.getElem_cons_zero, List.setIfInBounds_toArray, List.set_cons_zero, List.set_cons_succ]))
    (refine wpAnyH_take (i := 6) (v := ?_) rfl (by kernel_rfl) (by kernel_rfl) (by kernel_rfl) (fun _ _ _ h => h) (Or.inl ⟨by rfl, ?_⟩) hHeld ?_; rotate_left; (focus (intro w hSw; (try dsimp only at hSw); go_simp; try (with_reducible rfl))); (try simp only [Act.put, List.getElem_toArray, List.getElem_cons_succ, List.getElem_cons_zero, List.setIfInBounds_toArray, List.set_cons_zero, List.set_cons_succ]))
    (refine wpAnyH_take (i := 7) (v := ?_) rfl (by kernel_rfl) (by kernel_rfl) (by kernel_rfl) (fun _ _ _ h => h) (Or.inl ⟨by rfl, ?_⟩) hHeld ?_; rotate_left; (focus (intro w hSw; (try dsimp only at hSw); go_simp; try (with_reducible rfl))); (try simp only [Act.put, List.getElem_toArray, List.getElem_cons_succ, List.getElem_cons_zero, List.setIfInBounds_toArray, List.set_cons_zero, List.set_cons_succ]))
    (refine wpAnyH_take (i := 8) (v := ?_) rfl (by kernel_rfl) (by kernel_rfl) (by kernel_rfl) (fun _ _ _ h => h) (Or.inl ⟨by rfl, ?_⟩) hHeld ?_; rotate_left; (focus (intro w hSw; (try dsimp only at hSw); go_simp; try (with_reducible rfl))); (try simp only [Act.put, List.getElem_toArray, List.getElem_cons_succ, List.getElem_cons_zero, List.setIfInBounds_toArray, List.set_cons_zero, List.set_cons_succ]))
    (refine wpAnyH_take (i := 9) (v := ?_) rfl (by kernel_rfl) (by kernel_rfl) (by kernel_rfl) (fun _ _ _ h => h) (Or.inl ⟨by rfl, ?_⟩) hHeld ?_; rotate_left; (focus (intro w hSw; (try dsimp only at hSw); go_simp; try (with_reducible rfl))); (try simp only [Act.put, List.getElem_toArray, List.getElem_cons_succ, List.getElem_cons_zero, List.setIfInBounds_toArray, List.set_cons_zero, List.set_cons_succ]))
    refine wpAnyH_ready (rs := [10]) (by kernel_rfl) (by simp) (AllReadyH.cons rfl (fun K hK => ?_) AllReadyH.nil)
    go_simp
    refine hK.out _ _ (HS5.out _ (b_alloc (b_drew (Below.refl _ _)) _)) (fun hHeld => ?_)
    clear hK K
    (try simp only [Act.put, List.getElem_toArray, List.getElem_cons_succ, List.getElem_cons_zero, List.setIfInBounds_toArray, List.set_cons_zero, List.set_cons_succ])
    refine wpAnyH_named ?_
    intro q5 hq5
    have BW5 : Below W4.heap.size W4 q5 := by rw [hq5]; exact b_alloc (b_drew (Below.refl _ _)) _
    have KE5 : Blk q5 W4.heap.size [.slice none 0 0, .slice none 0 0, .int .i64 0, .slice none 0 0] := by rw [hq5]; exact blk_new W4.drew _ _
    clear hq5
    replace hHeld := HS5.out _ BW5
    refine wpAnyH_ready (rs := [11]) (by kernel_rfl) (by simp) (AllReadyH.cons rfl (fun K hK => ?_) AllReadyH.nil)
    have XE := BW5.size
    have X1 := KE5.1
    obtain ⟨e0, e1, e2, e3, ef⟩ := blk4 KE5
    go_simp
    have BF : Below W4.heap.size W4 ((((q5.setCell ⟨W4.heap.size, 0, none⟩ (.slice pa pn pc)).setCell ⟨W4.heap.size, 1, none⟩ (.slice la ln lc)).setCell ⟨W4.heap.size, 2, none⟩ (.int .i64 r)).setCell ⟨W4.heap.size, 3, none⟩ (.slice (some ⟨kb, 0, none⟩) code.length cc)) := b_set (b_set (b_set (b_set BW5 (Nat.le_refl _) _) (Nat.le_refl _) _) (Nat.le_refl _) _) (Nat.le_refl _) _
    have BX : Blk ((((q5.setCell ⟨W4.heap.size, 0, none⟩ (.slice pa pn pc)).setCell ⟨W4.heap.size, 1, none⟩ (.slice la ln lc)).setCell ⟨W4.heap.size, 2, none⟩ (.int .i64 r)).setCell ⟨W4.heap.size, 3, none⟩ (.slice (some ⟨kb, 0, none⟩) code.length cc)) W4.heap.size [.slice pa pn pc, .slice la ln lc, .int .i64 r, .slice (some ⟨kb, 0, none⟩) code.length cc] := blk_set (blk_set (blk_set (blk_set KE5 0 _) 1 _) 2 _) 3 _
    have HBF := Lib.hid BF; have HBX := Lib.hid BX
    clear BF BX e0 e1 e2 e3 ef
    refine hK.out _ _ (HS5.out _ HBF.out) (fun hHeld => ?_)
    clear hK K
    (try simp only [Act.put, List.getElem_toArray, List.getElem_cons_succ, List.getElem_cons_zero, List.setIfInBounds_toArray, List.set_cons_zero, List.set_cons_succ])
    refine wpAnyH_done (by kernel_rfl) ?_ _
    go_wp2_with fail
    go_meet
    case rel => exact ⟨_, rfl, Nat.le_refl _, HBX.out, HBF.out⟩
  case rest =>
  obtain ⟨x, rfl, hxW, hbx, hb5⟩ := hcut
  obtain ⟨W5, hW5⟩ : ∃ x, x = wc := ⟨_, rfl⟩
  subst hW5
  have HX5 := Lib.hid hbx
  have HB5 := Lib.hid (b_call HB4.out hb5)
  have HC5 := Lib.hid hb5
  have hx5 := hbx.1
  have HXX := Lib.hid hxW
  clear hb5 hbx
  obtain ⟨M, hM⟩ : ∃ M, M = ps ++ ls := ⟨_, rfl⟩
  have HM := Lib.hid hM
  have HML := Lib.hid (show M.length = ps.length + ls.length by rw [hM, List.length_append])
  clear hM
  have HP5 := Lib.hid (readI_below HDP.out HB5.out); have HL5 := Lib.hid (readI_below HDL.out HB5.out)
  go_upto_region 6 with fail
  go_cut [13] (fun v wx => ∃ a8 c8, v = .slice a8 M.length c8 ∧ ReadI wx (.slice a8 M.length c8) M ∧ Below W5.heap.size W5 wx)
  case first =>
    have HS6 : Hid (∀ w', Below W5.heap.size W5 w' → w'.cell? ⟨x, 0, none⟩ = some (.slice pa pn pc) ∧ w'.cell? ⟨x, 1, none⟩ = some (.slice la ln lc)) := Lib.hid (fun w' hb => by
      obtain ⟨y0, y1, _⟩ := blk4 (blk_below HX5.out hb); exact ⟨y0, y1⟩)
    refine wp_region_held_drew (S := (fun w' => w'.cell? ⟨x, 0, none⟩ = some (.slice pa pn pc) ∧ w'.cell? ⟨x, 1, none⟩ = some (.slice la ln lc))) (by kernel_rfl) (HS6.out _ (b_drew (Below.refl _ _))) (fun hHeld => ?_)
    (refine wpAnyH_take (i := 1) (v := ?_) rfl (by kernel_rfl) (by kernel_rfl) (by kernel_rfl) (fun _ _ _ h => h) (Or.inl ⟨by rfl, ?_⟩) hHeld ?_; rotate_left; (focus (intro w hSw; (try dsimp only at hSw); go_simp; try (with_reducible rfl))); (try simp only [Act.put, List.getElem_toArray, List.getElem_cons_succ, List.getElem_cons_zero, List.setIfInBounds_toArray, List.set_cons_zero, List.set_cons_succ]))
    (refine wpAnyH_take (i := 2) (v := ?_) rfl (by kernel_rfl) (by kernel_rfl) (by kernel_rfl) (fun _ _ _ h => h) (Or.inl ⟨by rfl, ?_⟩) hHeld ?_; rotate_left; (focus (intro w hSw; (try dsimp only at hSw); go_simp; try (with_reducible rfl))); (try simp only [Act.put, List.getElem_toArray, List.getElem_cons_succ, List.getElem_cons_zero, List.setIfInBounds_toArray, List.set_cons_zero, List.set_cons_succ]))
    (refine wpAnyH_take (i := 4) (v := ?_) rfl (by kernel_rfl) (by kernel_rfl) (by kernel_rfl) (fun _ _ _ h => h) (Or.inl ⟨by rfl, ?_⟩) hHeld ?_; rotate_left; (focus (intro w hSw; (try dsimp only at hSw); go_simp; try (with_reducible rfl))); (try simp only [Act.put, List.getElem_toArray, List.getElem_cons_succ, List.getElem_cons_zero, List.setIfInBounds_toArray, List.set_cons_zero, List.set_cons_succ]))
    (refine wpAnyH_take (i := 5) (v := ?_) rfl (by kernel_rfl) (by kernel_rfl) (by kernel_rfl) (fun _ _ _ h => h) (Or.inl ⟨by rfl, ?_⟩) hHeld ?_; rotate_left; (focus (intro w hSw; (try dsimp only at hSw); go_simp; try (with_reducible rfl))); (try simp only [Act.put, List.getElem_toArray, List.getElem_cons_succ, List.getElem_cons_zero, List.setIfInBounds_toArray, List.set_cons_zero, List.set_cons_succ]))
    refine wpAnyH_ready (rs := [0]) (by kernel_rfl) (by simp) (AllReadyH.cons rfl (fun K hK => ?_) AllReadyH.nil)
    go_simp
    refine hK.out _ _ (HS6.out _ (b_alloc (b_drew (Below.refl _ _)) _)) (fun hHeld => ?_)
    clear hK K
    (try simp only [Act.put, List.getElem_toArray, List.getElem_cons_succ, List.getElem_cons_zero, List.setIfInBounds_toArray, List.set_cons_zero, List.set_cons_succ])
    refine wpAnyH_named ?_
    intro q1 hq1
    have hb1 : Below W5.heap.size W5 q1 := by rw [hq1]; exact b_alloc (b_drew (Below.refl _ _)) _
    have ow1 : OwnI q1 W5.heap.size (.slice (some ⟨W5.heap.size, 0, none⟩) 0 0) [] := by rw [hq1]; exact own_empty (Nat.le_refl _)
    clear hq1
    replace hHeld := HS6.out _ hb1
    refine wpAnyH_ready (rs := [3]) (by kernel_rfl) (by simp) (AllReadyH.cons rfl (fun K hK => ?_) AllReadyH.nil)
    refine step_appendI (by rfl) _ _ (by rfl) W5.heap.size _ [] (by rfl) ow1 _ ps (by rfl) (readI_below HP5.out hb1) (by simp; omega) hb1.size ?_
    intro v7 q7 own7 hg7
    have hb7 := b_own hb1 ow1 hg7
    have own7 : OwnI q7 W5.heap.size v7 ps := own7
    obtain ⟨a7, c7, rfl⟩ := readI_len (ownI_read own7)
    clear hg7 ow1 hb1
    refine hK.out _ _ (HS6.out _ hb7) (fun hHeld => ?_)
    clear hK K
    (try simp only [Act.put, List.getElem_toArray, List.getElem_cons_succ, List.getElem_cons_zero, List.setIfInBounds_toArray, List.set_cons_zero, List.set_cons_succ])
    refine wpAnyH_ready (rs := [6]) (by kernel_rfl) (by simp) (AllReadyH.cons rfl (fun K hK => ?_) AllReadyH.nil)
    refine step_appendI (by rfl) _ _ (by rfl) W5.heap.size _ ps (by rfl) own7 _ ls (by rfl) (readI_below HL5.out hb7) (by omega) hb7.size ?_
    intro v8 q8 own8 hg8
    have hb8 := b_own hb7 own7 hg8
    rw [← HM.out] at own8
    obtain ⟨a8, c8, rfl⟩ := readI_len (ownI_read own8)
    have HR8 := Lib.hid (ownI_read own8)
    have HB8 := Lib.hid hb8
    clear own7 own8 hg8 hb7
    refine hK.out _ _ (HS6.out _ hb8) (fun hHeld => ?_)
    clear hK K
    (try simp only [Act.put, List.getElem_toArray, List.getElem_cons_succ, List.getElem_cons_zero, List.setIfInBounds_toArray, List.set_cons_zero, List.set_cons_succ])
    clear hb8
    (refine wpAnyH_take (i := 7) (v := ?_) rfl (by kernel_rfl) (by kernel_rfl) (by kernel_rfl) (fun _ _ _ h => h) (Or.inl ⟨by rfl, ?_⟩) hHeld ?_; rotate_left; (focus (intro w hSw; (try dsimp only at hSw); go_simp; try (with_reducible rfl))); (try simp only [Act.put, List.getElem_toArray, List.getElem_cons_succ, List.getElem_cons_zero, List.setIfInBounds_toArray, List.set_cons_zero, List.set_cons_succ]))
    refine wpAnyH_done (by kernel_rfl) ?_ _
    go_wp2_with fail
    go_meet
    case rel => exact ⟨a8, c8, rfl, HR8.out, HB8.out⟩
  case rest =>
  obtain ⟨a8, c8, rfl, hr8, hb6⟩ := hcut
  obtain ⟨W6, hW6⟩ : ∃ x, x = wc := ⟨_, rfl⟩
  subst hW6
  have HX6 := Lib.hid (blk_below HX5.out hb6)
  have HB6 := Lib.hid (b_call HB5.out hb6)
  have HC6 := Lib.hid (b_call HC5.out hb6)
  have HR8 := Lib.hid hr8
  have hx6 : x < W6.heap.size := HX6.out.1
  clear hr8 hb6
  obtain ⟨c0, c1, c2, c3, cf⟩ := blk4 HX6.out
  go_wp2_with fail
  refine (kind25_any ⟨⟨pa, pn, pc⟩, ⟨la, ln, lc⟩, r, ⟨some ⟨kb, 0, none⟩, code.length, cc⟩⟩ ⟨ps, ls, r, code⟩ at_ _ (deepF_below ⟨HDP.out, HDL.out, rfl, HDC.out⟩ HB6.out) HSF.out).mono ?_
  rintro e w7 ⟨rfl, hb7⟩
  obtain ⟨x9, hx9⟩ : ∃ y, y = kindOf25 ⟨ps, ls, r, code⟩ at_ := ⟨_, rfl⟩
  obtain ⟨b9, hb9⟩ : ∃ y, y = hasOf25 ⟨ps, ls, r, code⟩ at_ := ⟨_, rfl⟩
  rw [← hx9, ← hb9]
  have HX9 : Hid (x9 = if at_ < 0 then 0 else M.getD at_.toNat 0) := by show x9 = _; rw [HM.out]; exact hx9
  have HB9 : Hid (b9 = (decide (0 ≤ at_) && decide (at_ < (M.length : Int)))) := by
    show b9 = _
    rw [hb9, HML.out, Int.natCast_add]; rfl
  have HX7 := Lib.hid (blk_below HX6.out hb7)
  have HB7 := Lib.hid (b_call HB6.out hb7)
  have HC7 := Lib.hid (b_call HC6.out hb7)
  have HR7 := Lib.hid (readI_below HR8.out hb7)
  have hx7 : x < w7.heap.size := HX7.out.1
  have hml : M.length ≤ 16 := by rw [HML.out]; omega
  clear hx9 hb9 hb7 c0 c1 c2 c3 cf
  go_upto_region 8 with fail
  go_cut [16] (fun v wx => v = .bool b9 ∧ wx = w7)
  case first =>
    by_cases q0 : 0 ≤ at_
    · by_cases q1 : at_ < (M.length : Int)
      · obtain rfl : b9 = true := by rw [HB9.out, decide_eq_true q0, decide_eq_true q1]; rfl
        clear HB9
        go_wp2_with fail
        go_meet
        case rel => exact ⟨rfl, rfl⟩
      · obtain rfl : b9 = false := by rw [HB9.out, decide_eq_false q1, Bool.and_false]
        clear HB9
        go_wp2_with fail
        go_meet
        case rel => exact ⟨rfl, rfl⟩
    · obtain rfl : b9 = false := by rw [HB9.out, decide_eq_false q0, Bool.false_and]
      clear HB9
      go_wp2_with fail
      go_meet
      case rel => exact ⟨rfl, rfl⟩
  case rest =>
  obtain ⟨rfl, hwc⟩ := hcut
  cases hwc
  go_upto_region 9 with fail
  go_cut [79] (fun v wx => v = .bool false ∧ wx = w7)
  case first =>
    by_cases q0 : 0 ≤ at_
    · by_cases q1 : at_ < (M.length : Int)
      · obtain rfl : b9 = true := by rw [HB9.out, decide_eq_true q0, decide_eq_true q1]; rfl
        have hx9 : x9 = M.getD at_.toNat 0 := by rw [HX9.out, if_neg (by omega)]
        obtain ⟨bl, off, cp, e1, r1, r2, hbl, r4⟩ := readI_pos HR7.out (by omega)
        cases e1
        have hc := r4 at_.toNat (by omega)
        rw [← hx9] at hc
        clear HB9 HX9 hx9 r4
        obtain ⟨i9, rfl⟩ : ∃ i9 : Nat, at_ = i9 := ⟨at_.toNat, by omega⟩
        simp only [Int.toNat_natCast] at hc
        go_wp2_with fail
        go_meet
        case rel => exact ⟨rfl, rfl⟩
      · obtain rfl : b9 = false := by rw [HB9.out, decide_eq_false q1, Bool.and_false]
        obtain rfl : x9 = 0 := by rw [HX9.out]; split; rfl; rw [List.getD_eq_getElem?_getD, List.getElem?_eq_none (by omega)]; rfl
        clear HB9 HX9
        go_wp2_with fail
        go_meet
        case rel => exact ⟨rfl, rfl⟩
    · obtain rfl : b9 = false := by rw [HB9.out, decide_eq_false q0, Bool.false_and]
      obtain rfl : x9 = 0 := by rw [HX9.out, if_pos (by omega)]
      clear HB9 HX9
      go_wp2_with fail
      go_meet
      case rel => exact ⟨rfl, rfl⟩
  case rest =>
  obtain ⟨rfl, hwc⟩ := hcut
  cases hwc
  clear HB9 HX9
  obtain ⟨an, hkn2, ha128⟩ : ∃ an : Nat, bits BinOp.and IntKind.i64 at_ 127 = (an : Int) ∧ an < 128 := ⟨(at_ % 128).toNat, by rw [i64_and127]; omega, by omega⟩
  obtain ⟨nn, hnn⟩ : ∃ nn, nn = an % code.length := ⟨_, rfl⟩
  have hnL : nn < code.length := by rw [hnn]; exact Nat.mod_lt _ hc1
  have hm3 : (an : Int).tmod (code.length : Int) = (nn : Int) := by rw [hnn]; rfl
  have hm4 : (an : Int) % (code.length : Int) = (nn : Int) := by rw [hnn]; rfl
  clear hnn
  have hnL2 : (nn : Int) < code.length := by omega
  have hn0 : (0 : Int) ≤ nn := by omega
  obtain ⟨c0, c1, c2, c3, cf⟩ := blk4 HX7.out
  go_upto_region 12 with fail
  clear c0 c1 c2 c3 cf
  have hin := in_blk HKB.out nn hnL
  obtain ⟨old, hold⟩ : ∃ old, old = code[nn] := ⟨_, rfl⟩
  rw [← hold] at hin
  have HOLD := Lib.hid hold
  clear hold
  obtain ⟨o1, o2, o3, o4⟩ := old
  simp only at hin
  obtain ⟨q, hq⟩ : ∃ q, q = (o1 == iop && (o2 == ix && (o3 == ia && o4 == ib))) := ⟨_, rfl⟩
  have HQ := Lib.hid hq
  clear hq
  have HS12 : Hid (∀ w', Below w7.heap.size w7 w' → (w'.cell? ⟨x, 2, none⟩ = some (.int .i64 r) ∧ w'.cell? ⟨x, 3, none⟩ = some (.slice (some ⟨kb, 0, none⟩) code.length cc)) ∧ (w'.cell? ⟨w.heap.size + 1, 0, none⟩ = some (.int .i64 iop) ∧ w'.cell? ⟨w.heap.size + 1, 1, none⟩ = some (.int .u64 ix) ∧ w'.cell? ⟨w.heap.size + 1, 2, none⟩ = some (.int .i64 ia) ∧ w'.cell? ⟨w.heap.size + 1, 3, none⟩ = some (.int .i64 ib)) ∧ w'.cell? ⟨kb, nn * 4, none⟩ = some (.int .i64 o1) ∧ w'.cell? ⟨kb, nn * 4 + 1, none⟩ = some (.int .u64 o2) ∧ w'.cell? ⟨kb, nn * 4 + 2, none⟩ = some (.int .i64 o3) ∧ w'.cell? ⟨kb, nn * 4 + 3, none⟩ = some (.int .i64 o4)) := Lib.hid (fun w' hb => by
    obtain ⟨y0, y1, y2, y3, _⟩ := blk4 (blk_below HX7.out hb)
    have hc := (bcell (b_call HB7.out hb)).1
    exact ⟨⟨y2, y3⟩, HKI.out w' (b_call HB3.out (b_call HB7.out hb)), by rw [hc _ _ HKL.out]; exact hin.1, by rw [hc _ _ HKL.out]; exact hin.2.1, by rw [hc _ _ HKL.out]; exact hin.2.2.1, by rw [hc _ _ HKL.out]; exact hin.2.2.2⟩)
  clear hin
  go_cut [18] (fun v wx => v = .bool (q && decide (r = kind)) ∧ Below w7.heap.size w7 wx)
  case first =>
    have kg := guardRIn
    have kq : ∀ w, (binOp .eql 24 (.agg #[.int .i64 o1, .int .u64 o2, .int .i64 o3, .int .i64 o4]) (.agg #[.int .i64 iop, .int .u64 ix, .int .i64 ia, .int .i64 ib])).run Try.prog w = .ok (.bool q) w := fun w => by rw [HQ.out]; exact eqRIn ..
    clear HQ
    cases q
    · refine wp_region_held_drew (S := (fun w' => (w'.cell? ⟨x, 2, none⟩ = some (.int .i64 r) ∧ w'.cell? ⟨x, 3, none⟩ = some (.slice (some ⟨kb, 0, none⟩) code.length cc)) ∧ (w'.cell? ⟨w.heap.size + 1, 0, none⟩ = some (.int .i64 iop) ∧ w'.cell? ⟨w.heap.size + 1, 1, none⟩ = some (.int .u64 ix) ∧ w'.cell? ⟨w.heap.size + 1, 2, none⟩ = some (.int .i64 ia) ∧ w'.cell? ⟨w.heap.size + 1, 3, none⟩ = some (.int .i64 ib)) ∧ w'.cell? ⟨kb, nn * 4, none⟩ = some (.int .i64 o1) ∧ w'.cell? ⟨kb, nn * 4 + 1, none⟩ = some (.int .u64 o2) ∧ w'.cell? ⟨kb, nn * 4 + 2, none⟩ = some (.int .i64 o3) ∧ w'.cell? ⟨kb, nn * 4 + 3, none⟩ = some (.int .i64 o4))) (by kernel_rfl) (HS12.out _ (b_drew (Below.refl _ _))) (fun hHeld => ?_)
      (refine wpAnyH_take (i := 0) (v := ?_) rfl (by kernel_rfl) (by kernel_rfl) (by kernel_rfl) (fun _ _ _ h => h) (Or.inl ⟨by rfl, ?_⟩) hHeld ?_; rotate_left; (focus (intro w hSw; (try dsimp only at hSw); go_simp; try (with_reducible rfl))); (try simp only [Act.put, List.getElem_toArray, List.getElem_cons_succ, List.getElem_cons_zero, List.setIfInBounds_toArray, List.set_cons_zero, List.set_cons_succ]))
      (refine wpAnyH_take (i := 1) (v := ?_) rfl (by kernel_rfl) (by kernel_rfl) (by kernel_rfl) (fun _ _ _ h => h) (Or.inl ⟨by rfl, ?_⟩) hHeld ?_; rotate_left; (focus (intro w hSw; (try dsimp only at hSw); go_simp; try (with_reducible rfl))); (try simp only [Act.put, List.getElem_toArray, List.getElem_cons_succ, List.getElem_cons_zero, List.setIfInBounds_toArray, List.set_cons_zero, List.set_cons_succ]))
      (refine wpAnyH_take (i := 2) (v := ?_) rfl (by kernel_rfl) (by kernel_rfl) (by kernel_rfl) (fun _ _ _ h => h) (Or.inl ⟨by rfl, ?_⟩) hHeld ?_; rotate_left; (focus (intro w hSw; (try dsimp only at hSw); go_simp; try (with_reducible rfl))); (try simp only [Act.put, List.getElem_toArray, List.getElem_cons_succ, List.getElem_cons_zero, List.setIfInBounds_toArray, List.set_cons_zero, List.set_cons_succ]))
      (refine wpAnyH_take (i := 3) (v := ?_) rfl (by kernel_rfl) (by kernel_rfl) (by kernel_rfl) (fun _ _ _ h => h) (Or.inl ⟨by rfl, ?_⟩) hHeld ?_; rotate_left; (focus (intro w hSw; (try dsimp only at hSw); go_simp; try (with_reducible rfl))); (try simp only [Act.put, List.getElem_toArray, List.getElem_cons_succ, List.getElem_cons_zero, List.setIfInBounds_toArray, List.set_cons_zero, List.set_cons_succ]))
      (refine wpAnyH_take (i := 4) (v := ?_) rfl (by kernel_rfl) (by kernel_rfl) (by kernel_rfl) (fun _ _ _ h => h) (Or.inl ⟨by rfl, ?_⟩) hHeld ?_; rotate_left; (focus (intro w hSw; (try dsimp only at hSw); go_simp; try (with_reducible rfl))); (try simp only [Act.put, List.getElem_toArray, List.getElem_cons_succ, List.getElem_cons_zero, List.setIfInBounds_toArray, List.set_cons_zero, List.set_cons_succ]))
      (refine wpAnyH_take (i := 6) (v := ?_) rfl (by kernel_rfl) (by kernel_rfl) (by kernel_rfl) (fun _ _ _ h => h) (Or.inl ⟨by rfl, ?_⟩) hHeld ?_; rotate_left; (focus (intro w hSw; (try dsimp only at hSw); go_simp; try (with_reducible rfl))); (try simp only [Act.put, List.getElem_toArray, List.getElem_cons_succ, List.getElem_cons_zero, List.setIfInBounds_toArray, List.set_cons_zero, List.set_cons_succ]))
      refine wpAnyH_ready (rs := [5]) (by kernel_rfl) (by simp) (AllReadyH.cons rfl (fun K hK => ?_) AllReadyH.nil)
      go_simp
      refine (plain_any _ _ _ _ _).mono ?_
      rintro e w8 ⟨rfl, hb8⟩
      refine hK.out _ _ (HS12.out _ (by (repeat' (first | exact Below.refl _ _ | assumption | refine b_alloc ?_ _ | refine b_over ?_ _ | refine b_drew ?_ | refine b_call ?_ (by assumption))))) (fun hHeld => ?_)
      clear hK K
      (try simp only [Act.put, List.getElem_toArray, List.getElem_cons_succ, List.getElem_cons_zero, List.setIfInBounds_toArray, List.set_cons_zero, List.set_cons_succ])
      (refine wpAnyH_take (i := 7) (v := ?_) rfl (by kernel_rfl) (by kernel_rfl) (by kernel_rfl) (fun _ _ _ h => h) (Or.inl ⟨by rfl, ?_⟩) hHeld ?_; rotate_left; (focus (intro w hSw; (try dsimp only at hSw); go_simp; try (with_reducible rfl))); (try simp only [Act.put, List.getElem_toArray, List.getElem_cons_succ, List.getElem_cons_zero, List.setIfInBounds_toArray, List.set_cons_zero, List.set_cons_succ]))
      (refine wpAnyH_take (i := 8) (v := ?_) rfl (by kernel_rfl) (by kernel_rfl) (by kernel_rfl) (fun _ _ _ h => h) (Or.inl ⟨by rfl, ?_⟩) hHeld ?_; rotate_left; (focus (intro w hSw; (try dsimp only at hSw); go_simp; try (with_reducible rfl))); (try simp only [Act.put, List.getElem_toArray, List.getElem_cons_succ, List.getElem_cons_zero, List.setIfInBounds_toArray, List.set_cons_zero, List.set_cons_succ]))
      (refine wpAnyH_take (i := 9) (v := _) rfl (by kernel_rfl) (by kernel_rfl) (by kernel_rfl) (fun _ _ _ h => h) (Or.inr ⟨by rfl, rfl⟩) hHeld ?_; (try simp only [Act.put, List.getElem_toArray, List.getElem_cons_succ, List.getElem_cons_zero, List.setIfInBounds_toArray, List.set_cons_zero, List.set_cons_succ]))
      (refine wpAnyH_take (i := 10) (v := _) rfl (by kernel_rfl) (by kernel_rfl) (by kernel_rfl) (fun _ _ _ h => h) (Or.inr ⟨by rfl, rfl⟩) hHeld ?_; (try simp only [Act.put, List.getElem_toArray, List.getElem_cons_succ, List.getElem_cons_zero, List.setIfInBounds_toArray, List.set_cons_zero, List.set_cons_succ]))
      (refine wpAnyH_take (i := 11) (v := _) rfl (by kernel_rfl) (by kernel_rfl) (by kernel_rfl) (fun _ _ _ h => h) (Or.inr ⟨by rfl, rfl⟩) hHeld ?_; (try simp only [Act.put, List.getElem_toArray, List.getElem_cons_succ, List.getElem_cons_zero, List.setIfInBounds_toArray, List.set_cons_zero, List.set_cons_succ]))
      (refine wpAnyH_take (i := 12) (v := _) rfl (by kernel_rfl) (by kernel_rfl) (by kernel_rfl) (fun _ _ _ h => h) (Or.inr ⟨by rfl, rfl⟩) hHeld ?_; (try simp only [Act.put, List.getElem_toArray, List.getElem_cons_succ, List.getElem_cons_zero, List.setIfInBounds_toArray, List.set_cons_zero, List.set_cons_succ]))
      (refine wpAnyH_take (i := 13) (v := ?_) rfl (by kernel_rfl) (by kernel_rfl) (by kernel_rfl) (fun _ _ _ h => h) (Or.inl ⟨by rfl, ?_⟩) hHeld ?_; rotate_left; (focus (intro w hSw; (try dsimp only at hSw); go_simp; try (with_reducible rfl))); (try simp only [Act.put, List.getElem_toArray, List.getElem_cons_succ, List.getElem_cons_zero, List.setIfInBounds_toArray, List.set_cons_zero, List.set_cons_succ]))
      (refine wpAnyH_take (i := 14) (v := ?_) rfl (by kernel_rfl) (by kernel_rfl) (by kernel_rfl) (fun _ _ _ h => h) (Or.inl ⟨by rfl, ?_⟩) hHeld ?_; rotate_left; (focus (intro w hSw; (try dsimp only at hSw); go_simp; try (with_reducible rfl))); (try simp only [Act.put, List.getElem_toArray, List.getElem_cons_succ, List.getElem_cons_zero, List.setIfInBounds_toArray, List.set_cons_zero, List.set_cons_succ]))
      refine wpAnyH_done (by kernel_rfl) ?_ _
      go_wp2_with fail
      go_meet
      case rel => exact ⟨by first | rfl | simp, by (repeat' (first | exact Below.refl _ _ | assumption | refine b_alloc ?_ _ | refine b_over ?_ _ | refine b_drew ?_ | refine b_call ?_ (by assumption)))⟩
    · by_cases hrk : r = kind
      · subst hrk
        refine wp_region_held_drew (S := (fun w' => (w'.cell? ⟨x, 2, none⟩ = some (.int .i64 r) ∧ w'.cell? ⟨x, 3, none⟩ = some (.slice (some ⟨kb, 0, none⟩) code.length cc)) ∧ (w'.cell? ⟨w.heap.size + 1, 0, none⟩ = some (.int .i64 iop) ∧ w'.cell? ⟨w.heap.size + 1, 1, none⟩ = some (.int .u64 ix) ∧ w'.cell? ⟨w.heap.size + 1, 2, none⟩ = some (.int .i64 ia) ∧ w'.cell? ⟨w.heap.size + 1, 3, none⟩ = some (.int .i64 ib)) ∧ w'.cell? ⟨kb, nn * 4, none⟩ = some (.int .i64 o1) ∧ w'.cell? ⟨kb, nn * 4 + 1, none⟩ = some (.int .u64 o2) ∧ w'.cell? ⟨kb, nn * 4 + 2, none⟩ = some (.int .i64 o3) ∧ w'.cell? ⟨kb, nn * 4 + 3, none⟩ = some (.int .i64 o4))) (by kernel_rfl) (HS12.out _ (b_drew (Below.refl _ _))) (fun hHeld => ?_)
        (refine wpAnyH_take (i := 0) (v := ?_) rfl (by kernel_rfl) (by kernel_rfl) (by kernel_rfl) (fun _ _ _ h => h) (Or.inl ⟨by rfl, ?_⟩) hHeld ?_; rotate_left; (focus (intro w hSw; (try dsimp only at hSw); go_simp; try (with_reducible rfl))); (try simp only [Act.put, List.getElem_toArray, List.getElem_cons_succ, List.getElem_cons_zero, List.setIfInBounds_toArray, List.set_cons_zero, List.set_cons_succ]))
        (refine wpAnyH_take (i := 1) (v := ?_) rfl (by kernel_rfl) (by kernel_rfl) (by kernel_rfl) (fun _ _ _ h => h) (Or.inl ⟨by rfl, ?_⟩) hHeld ?_; rotate_left; (focus (intro w hSw; (try dsimp only at hSw); go_simp; try (with_reducible rfl))); (try simp only [Act.put, List.getElem_toArray, List.getElem_cons_succ, List.getElem_cons_zero, List.setIfInBounds_toArray, List.set_cons_zero, List.set_cons_succ]))
        (refine wpAnyH_take (i := 2) (v := ?_) rfl (by kernel_rfl) (by kernel_rfl) (by kernel_rfl) (fun _ _ _ h => h) (Or.inl ⟨by rfl, ?_⟩) hHeld ?_; rotate_left; (focus (intro w hSw; (try dsimp only at hSw); go_simp; try (with_reducible rfl))); (try simp only [Act.put, List.getElem_toArray, List.getElem_cons_succ, List.getElem_cons_zero, List.setIfInBounds_toArray, List.set_cons_zero, List.set_cons_succ]))
        (refine wpAnyH_take (i := 3) (v := ?_) rfl (by kernel_rfl) (by kernel_rfl) (by kernel_rfl) (fun _ _ _ h => h) (Or.inl ⟨by rfl, ?_⟩) hHeld ?_; rotate_left; (focus (intro w hSw; (try dsimp only at hSw); go_simp; try (with_reducible rfl))); (try simp only [Act.put, List.getElem_toArray, List.getElem_cons_succ, List.getElem_cons_zero, List.setIfInBounds_toArray, List.set_cons_zero, List.set_cons_succ]))
        (refine wpAnyH_take (i := 4) (v := ?_) rfl (by kernel_rfl) (by kernel_rfl) (by kernel_rfl) (fun _ _ _ h => h) (Or.inl ⟨by rfl, ?_⟩) hHeld ?_; rotate_left; (focus (intro w hSw; (try dsimp only at hSw); go_simp; try (with_reducible rfl))); (try simp only [Act.put, List.getElem_toArray, List.getElem_cons_succ, List.getElem_cons_zero, List.setIfInBounds_toArray, List.set_cons_zero, List.set_cons_succ]))
        (refine wpAnyH_take (i := 6) (v := ?_) rfl (by kernel_rfl) (by kernel_rfl) (by kernel_rfl) (fun _ _ _ h => h) (Or.inl ⟨by rfl, ?_⟩) hHeld ?_; rotate_left; (focus (intro w hSw; (try dsimp only at hSw); go_simp; try (with_reducible rfl))); (try simp only [Act.put, List.getElem_toArray, List.getElem_cons_succ, List.getElem_cons_zero, List.setIfInBounds_toArray, List.set_cons_zero, List.set_cons_succ]))
        refine wpAnyH_ready (rs := [5]) (by kernel_rfl) (by simp) (AllReadyH.cons rfl (fun K hK => ?_) AllReadyH.nil)
        go_simp
        refine (plain_any _ _ _ _ _).mono ?_
        rintro e w8 ⟨rfl, hb8⟩
        refine hK.out _ _ (HS12.out _ (by (repeat' (first | exact Below.refl _ _ | assumption | refine b_alloc ?_ _ | refine b_over ?_ _ | refine b_drew ?_ | refine b_call ?_ (by assumption))))) (fun hHeld => ?_)
        clear hK K
        (try simp only [Act.put, List.getElem_toArray, List.getElem_cons_succ, List.getElem_cons_zero, List.setIfInBounds_toArray, List.set_cons_zero, List.set_cons_succ])
        (refine wpAnyH_take (i := 7) (v := ?_) rfl (by kernel_rfl) (by kernel_rfl) (by kernel_rfl) (fun _ _ _ h => h) (Or.inl ⟨by rfl, ?_⟩) hHeld ?_; rotate_left; (focus (intro w hSw; (try dsimp only at hSw); go_simp; try (with_reducible rfl))); (try simp only [Act.put, List.getElem_toArray, List.getElem_cons_succ, List.getElem_cons_zero, List.setIfInBounds_toArray, List.set_cons_zero, List.set_cons_succ]))
        (refine wpAnyH_take (i := 8) (v := ?_) rfl (by kernel_rfl) (by kernel_rfl) (by kernel_rfl) (fun _ _ _ h => h) (Or.inl ⟨by rfl, ?_⟩) hHeld ?_; rotate_left; (focus (intro w hSw; (try dsimp only at hSw); go_simp; try (with_reducible rfl))); (try simp only [Act.put, List.getElem_toArray, List.getElem_cons_succ, List.getElem_cons_zero, List.setIfInBounds_toArray, List.set_cons_zero, List.set_cons_succ]))
        (refine wpAnyH_take (i := 9) (v := ?_) rfl (by kernel_rfl) (by kernel_rfl) (by kernel_rfl) (fun _ _ _ h => h) (Or.inl ⟨by rfl, ?_⟩) hHeld ?_; rotate_left; (focus (intro w hSw; (try dsimp only at hSw); go_simp; try (with_reducible rfl))); (try simp only [Act.put, List.getElem_toArray, List.getElem_cons_succ, List.getElem_cons_zero, List.setIfInBounds_toArray, List.set_cons_zero, List.set_cons_succ]))
        (refine wpAnyH_take (i := 10) (v := ?_) rfl (by kernel_rfl) (by kernel_rfl) (by kernel_rfl) (fun _ _ _ h => h) (Or.inl ⟨by rfl, ?_⟩) hHeld ?_; rotate_left; (focus (intro w hSw; (try dsimp only at hSw); go_simp; try (with_reducible rfl))); (try simp only [Act.put, List.getElem_toArray, List.getElem_cons_succ, List.getElem_cons_zero, List.setIfInBounds_toArray, List.set_cons_zero, List.set_cons_succ]))
        (refine wpAnyH_take (i := 11) (v := ?_) rfl (by kernel_rfl) (by kernel_rfl) (by kernel_rfl) (fun _ _ _ h => h) (Or.inl ⟨by rfl, ?_⟩) hHeld ?_; rotate_left; (focus (intro w hSw; (try dsimp only at hSw); go_simp; try (with_reducible rfl))); (try simp only [Act.put, List.getElem_toArray, List.getElem_cons_succ, List.getElem_cons_zero, List.setIfInBounds_toArray, List.set_cons_zero, List.set_cons_succ]))
        (refine wpAnyH_take (i := 12) (v := ?_) rfl (by kernel_rfl) (by kernel_rfl) (by kernel_rfl) (fun _ _ _ h => h) (Or.inl ⟨by rfl, ?_⟩) hHeld ?_; rotate_left; (focus (intro w hSw; (try dsimp only at hSw); go_simp; try (with_reducible rfl))); (try simp only [Act.put, List.getElem_toArray, List.getElem_cons_succ, List.getElem_cons_zero, List.setIfInBounds_toArray, List.set_cons_zero, List.set_cons_succ]))
        (refine wpAnyH_take (i := 13) (v := ?_) rfl (by kernel_rfl) (by kernel_rfl) (by kernel_rfl) (fun _ _ _ h => h) (Or.inl ⟨by rfl, ?_⟩) hHeld ?_; rotate_left; (focus (intro w hSw; (try dsimp only at hSw); go_simp; try (with_reducible rfl))); (try simp only [Act.put, List.getElem_toArray, List.getElem_cons_succ, List.getElem_cons_zero, List.setIfInBounds_toArray, List.set_cons_zero, List.set_cons_succ]))
        (refine wpAnyH_take (i := 14) (v := ?_) rfl (by kernel_rfl) (by kernel_rfl) (by kernel_rfl) (fun _ _ _ h => h) (Or.inl ⟨by rfl, ?_⟩) hHeld ?_; rotate_left; (focus (intro w hSw; (try dsimp only at hSw); go_simp; try (with_reducible rfl))); (try simp only [Act.put, List.getElem_toArray, List.getElem_cons_succ, List.getElem_cons_zero, List.setIfInBounds_toArray, List.set_cons_zero, List.set_cons_succ]))
        refine wpAnyH_done (by kernel_rfl) ?_ _
        go_wp2_with fail
        go_meet
        case rel => exact ⟨by first | rfl | simp, by (repeat' (first | exact Below.refl _ _ | assumption | refine b_alloc ?_ _ | refine b_over ?_ _ | refine b_drew ?_ | refine b_call ?_ (by assumption)))⟩
      · refine wp_region_held_drew (S := (fun w' => (w'.cell? ⟨x, 2, none⟩ = some (.int .i64 r) ∧ w'.cell? ⟨x, 3, none⟩ = some (.slice (some ⟨kb, 0, none⟩) code.length cc)) ∧ (w'.cell? ⟨w.heap.size + 1, 0, none⟩ = some (.int .i64 iop) ∧ w'.cell? ⟨w.heap.size + 1, 1, none⟩ = some (.int .u64 ix) ∧ w'.cell? ⟨w.heap.size + 1, 2, none⟩ = some (.int .i64 ia) ∧ w'.cell? ⟨w.heap.size + 1, 3, none⟩ = some (.int .i64 ib)) ∧ w'.cell? ⟨kb, nn * 4, none⟩ = some (.int .i64 o1) ∧ w'.cell? ⟨kb, nn * 4 + 1, none⟩ = some (.int .u64 o2) ∧ w'.cell? ⟨kb, nn * 4 + 2, none⟩ = some (.int .i64 o3) ∧ w'.cell? ⟨kb, nn * 4 + 3, none⟩ = some (.int .i64 o4))) (by kernel_rfl) (HS12.out _ (b_drew (Below.refl _ _))) (fun hHeld => ?_)
        (refine wpAnyH_take (i := 0) (v := ?_) rfl (by kernel_rfl) (by kernel_rfl) (by kernel_rfl) (fun _ _ _ h => h) (Or.inl ⟨by rfl, ?_⟩) hHeld ?_; rotate_left; (focus (intro w hSw; (try dsimp only at hSw); go_simp; try (with_reducible rfl))); (try simp only [Act.put, List.getElem_toArray, List.getElem_cons_succ, List.getElem_cons_zero, List.setIfInBounds_toArray, List.set_cons_zero, List.set_cons_succ]))
        (refine wpAnyH_take (i := 1) (v := ?_) rfl (by kernel_rfl) (by kernel_rfl) (by kernel_rfl) (fun _ _ _ h => h) (Or.inl ⟨by rfl, ?_⟩) hHeld ?_; rotate_left; (focus (intro w hSw; (try dsimp only at hSw); go_simp; try (with_reducible rfl))); (try simp only [Act.put, List.getElem_toArray, List.getElem_cons_succ, List.getElem_cons_zero, List.setIfInBounds_toArray, List.set_cons_zero, List.set_cons_succ]))
        (refine wpAnyH_take (i := 2) (v := ?_) rfl (by kernel_rfl) (by kernel_rfl) (by kernel_rfl) (fun _ _ _ h => h) (Or.inl ⟨by rfl, ?_⟩) hHeld ?_; rotate_left; (focus (intro w hSw; (try dsimp only at hSw); go_simp; try (with_reducible rfl))); (try simp only [Act.put, List.getElem_toArray, List.getElem_cons_succ, List.getElem_cons_zero, List.setIfInBounds_toArray, List.set_cons_zero, List.set_cons_succ]))
        (refine wpAnyH_take (i := 3) (v := ?_) rfl (by kernel_rfl) (by kernel_rfl) (by kernel_rfl) (fun _ _ _ h => h) (Or.inl ⟨by rfl, ?_⟩) hHeld ?_; rotate_left; (focus (intro w hSw; (try dsimp only at hSw); go_simp; try (with_reducible rfl))); (try simp only [Act.put, List.getElem_toArray, List.getElem_cons_succ, List.getElem_cons_zero, List.setIfInBounds_toArray, List.set_cons_zero, List.set_cons_succ]))
        (refine wpAnyH_take (i := 4) (v := ?_) rfl (by kernel_rfl) (by kernel_rfl) (by kernel_rfl) (fun _ _ _ h => h) (Or.inl ⟨by rfl, ?_⟩) hHeld ?_; rotate_left; (focus (intro w hSw; (try dsimp only at hSw); go_simp; try (with_reducible rfl))); (try simp only [Act.put, List.getElem_toArray, List.getElem_cons_succ, List.getElem_cons_zero, List.setIfInBounds_toArray, List.set_cons_zero, List.set_cons_succ]))
        (refine wpAnyH_take (i := 6) (v := ?_) rfl (by kernel_rfl) (by kernel_rfl) (by kernel_rfl) (fun _ _ _ h => h) (Or.inl ⟨by rfl, ?_⟩) hHeld ?_; rotate_left; (focus (intro w hSw; (try dsimp only at hSw); go_simp; try (with_reducible rfl))); (try simp only [Act.put, List.getElem_toArray, List.getElem_cons_succ, List.getElem_cons_zero, List.setIfInBounds_toArray, List.set_cons_zero, List.set_cons_succ]))
        refine wpAnyH_ready (rs := [5]) (by kernel_rfl) (by simp) (AllReadyH.cons rfl (fun K hK => ?_) AllReadyH.nil)
        go_simp
        refine (plain_any _ _ _ _ _).mono ?_
        rintro e w8 ⟨rfl, hb8⟩
        refine hK.out _ _ (HS12.out _ (by (repeat' (first | exact Below.refl _ _ | assumption | refine b_alloc ?_ _ | refine b_over ?_ _ | refine b_drew ?_ | refine b_call ?_ (by assumption))))) (fun hHeld => ?_)
        clear hK K
        (try simp only [Act.put, List.getElem_toArray, List.getElem_cons_succ, List.getElem_cons_zero, List.setIfInBounds_toArray, List.set_cons_zero, List.set_cons_succ])
        (refine wpAnyH_take (i := 7) (v := ?_) rfl (by kernel_rfl) (by kernel_rfl) (by kernel_rfl) (fun _ _ _ h => h) (Or.inl ⟨by rfl, ?_⟩) hHeld ?_; rotate_left; (focus (intro w hSw; (try dsimp only at hSw); go_simp; try (with_reducible rfl))); (try simp only [Act.put, List.getElem_toArray, List.getElem_cons_succ, List.getElem_cons_zero, List.setIfInBounds_toArray, List.set_cons_zero, List.set_cons_succ]))
        (refine wpAnyH_take (i := 8) (v := ?_) rfl (by kernel_rfl) (by kernel_rfl) (by kernel_rfl) (fun _ _ _ h => h) (Or.inl ⟨by rfl, ?_⟩) hHeld ?_; rotate_left; (focus (intro w hSw; (try dsimp only at hSw); go_simp; try (with_reducible rfl))); (try simp only [Act.put, List.getElem_toArray, List.getElem_cons_succ, List.getElem_cons_zero, List.setIfInBounds_toArray, List.set_cons_zero, List.set_cons_succ]))
        (refine wpAnyH_take (i := 9) (v := ?_) rfl (by kernel_rfl) (by kernel_rfl) (by kernel_rfl) (fun _ _ _ h => h) (Or.inl ⟨by rfl, ?_⟩) hHeld ?_; rotate_left; (focus (intro w hSw; (try dsimp only at hSw); go_simp; try (with_reducible rfl))); (try simp only [Act.put, List.getElem_toArray, List.getElem_cons_succ, List.getElem_cons_zero, List.setIfInBounds_toArray, List.set_cons_zero, List.set_cons_succ]))
        (refine wpAnyH_take (i := 10) (v := ?_) rfl (by kernel_rfl) (by kernel_rfl) (by kernel_rfl) (fun _ _ _ h => h) (Or.inl ⟨by rfl, ?_⟩) hHeld ?_; rotate_left; (focus (intro w hSw; (try dsimp only at hSw); go_simp; try (with_reducible rfl))); (try simp only [Act.put, List.getElem_toArray, List.getElem_cons_succ, List.getElem_cons_zero, List.setIfInBounds_toArray, List.set_cons_zero, List.set_cons_succ]))
        (refine wpAnyH_take (i := 11) (v := ?_) rfl (by kernel_rfl) (by kernel_rfl) (by kernel_rfl) (fun _ _ _ h => h) (Or.inl ⟨by rfl, ?_⟩) hHeld ?_; rotate_left; (focus (intro w hSw; (try dsimp only at hSw); go_simp; try (with_reducible rfl))); (try simp only [Act.put, List.getElem_toArray, List.getElem_cons_succ, List.getElem_cons_zero, List.setIfInBounds_toArray, List.set_cons_zero, List.set_cons_succ]))
        (refine wpAnyH_take (i := 12) (v := ?_) rfl (by kernel_rfl) (by kernel_rfl) (by kernel_rfl) (fun _ _ _ h => h) (Or.inl ⟨by rfl, ?_⟩) hHeld ?_; rotate_left; (focus (intro w hSw; (try dsimp only at hSw); go_simp; try (with_reducible rfl))); (try simp only [Act.put, List.getElem_toArray, List.getElem_cons_succ, List.getElem_cons_zero, List.setIfInBounds_toArray, List.set_cons_zero, List.set_cons_succ]))
        (refine wpAnyH_take (i := 13) (v := ?_) rfl (by kernel_rfl) (by kernel_rfl) (by kernel_rfl) (fun _ _ _ h => h) (Or.inl ⟨by rfl, ?_⟩) hHeld ?_; rotate_left; (focus (intro w hSw; (try dsimp only at hSw); go_simp; try (with_reducible rfl))); (try simp only [Act.put, List.getElem_toArray, List.getElem_cons_succ, List.getElem_cons_zero, List.setIfInBounds_toArray, List.set_cons_zero, List.set_cons_succ]))
        (refine wpAnyH_take (i := 14) (v := ?_) rfl (by kernel_rfl) (by kernel_rfl) (by kernel_rfl) (fun _ _ _ h => h) (Or.inl ⟨by rfl, ?_⟩) hHeld ?_; rotate_left; (focus (intro w hSw; (try dsimp only at hSw); go_simp; try (with_reducible rfl))); (try simp only [Act.put, List.getElem_toArray, List.getElem_cons_succ, List.getElem_cons_zero, List.setIfInBounds_toArray, List.set_cons_zero, List.set_cons_succ]))
        refine wpAnyH_done (by kernel_rfl) ?_ _
        go_wp2_with fail
        go_meet
        case rel => exact ⟨by first | rfl | simp [hrk], by (repeat' (first | exact Below.refl _ _ | assumption | refine b_alloc ?_ _ | refine b_over ?_ _ | refine b_drew ?_ | refine b_call ?_ (by assumption)))⟩
  case rest =>
  obtain ⟨rfl, hb8⟩ := hcut
  obtain ⟨W8, hW8⟩ : ∃ x, x = wc := ⟨_, rfl⟩
  subst hW8
  obtain ⟨d, hd⟩ : ∃ d, d = (q && decide (r = kind)) := ⟨_, rfl⟩
  rw [← hd]
  have HDD := Lib.hid hd
  have HB8 := Lib.hid (b_call HB7.out hb8)
  have HC8 := Lib.hid (b_call HC7.out hb8)
  have HX8 := Lib.hid (blk_below HX7.out hb8)
  have HS13 : Hid (∀ w', Below W8.heap.size W8 w' → w'.cell? ⟨x, 3, none⟩ = some (.slice (some ⟨kb, 0, none⟩) code.length cc) ∧ (w'.cell? ⟨w.heap.size + 1, 0, none⟩ = some (.int .i64 iop) ∧ w'.cell? ⟨w.heap.size + 1, 1, none⟩ = some (.int .u64 ix) ∧ w'.cell? ⟨w.heap.size + 1, 2, none⟩ = some (.int .i64 ia) ∧ w'.cell? ⟨w.heap.size + 1, 3, none⟩ = some (.int .i64 ib))) := Lib.hid (fun w' hb => by
    have z := HS12.out w' (b_call hb8 hb)
    exact ⟨z.1.2, z.2.1⟩)
  have HKA : Hid (∀ w', Below W8.heap.size W8 w' → Blk w' kb (inE.row code)) := Lib.hid (fun w' hb => blk_below HKB.out (b_call HB8.out hb))
  clear hd hb8 HS12
  go_upto_region 13 with fail
  go_cut [104] (fun v wx => ∃ wA, Below W8.heap.size W8 wA ∧ wx = wA.setCells kb (nn * 4) [.int .i64 iop, .int .u64 ix, .int .i64 ia, .int .i64 ib])
  case first =>
    refine wp_region_E (S := (fun w' => w'.cell? ⟨x, 3, none⟩ = some (.slice (some ⟨kb, 0, none⟩) code.length cc) ∧ (w'.cell? ⟨w.heap.size + 1, 0, none⟩ = some (.int .i64 iop) ∧ w'.cell? ⟨w.heap.size + 1, 1, none⟩ = some (.int .u64 ix) ∧ w'.cell? ⟨w.heap.size + 1, 2, none⟩ = some (.int .i64 ia) ∧ w'.cell? ⟨w.heap.size + 1, 3, none⟩ = some (.int .i64 ib)))) 6 (by kernel_rfl) (HS13.out _ (b_drew (Below.refl _ _))) (fun hHeld => ?_)
    (refine wpAnyE_take (n := 12) (i := 0) (v := ?_) rfl (by kernel_rfl) (by kernel_rfl) (by kernel_rfl) (by kernel_rfl) (by kernel_rfl) (fun _ _ _ h => h) (Or.inl ⟨by rfl, ?_⟩) hHeld ?_; rotate_left; (focus (intro w hSw; (try dsimp only at hSw); go_simp; try (with_reducible rfl))); (try simp only [Act.put, List.getElem_toArray, List.getElem_cons_succ, List.getElem_cons_zero, List.setIfInBounds_toArray, List.set_cons_zero, List.set_cons_succ]))
    (refine wpAnyE_take (n := 12) (i := 1) (v := ?_) rfl (by kernel_rfl) (by kernel_rfl) (by kernel_rfl) (by kernel_rfl) (by kernel_rfl) (fun _ _ _ h => h) (Or.inl ⟨by rfl, ?_⟩) hHeld ?_; rotate_left; (focus (intro w hSw; (try dsimp only at hSw); go_simp; try (with_reducible rfl))); (try simp only [Act.put, List.getElem_toArray, List.getElem_cons_succ, List.getElem_cons_zero, List.setIfInBounds_toArray, List.set_cons_zero, List.set_cons_succ]))
    (refine wpAnyE_take (n := 12) (i := 2) (v := ?_) rfl (by kernel_rfl) (by kernel_rfl) (by kernel_rfl) (by kernel_rfl) (by kernel_rfl) (fun _ _ _ h => h) (Or.inl ⟨by rfl, ?_⟩) hHeld ?_; rotate_left; (focus (intro w hSw; (try dsimp only at hSw); go_simp; try (with_reducible rfl))); (try simp only [Act.put, List.getElem_toArray, List.getElem_cons_succ, List.getElem_cons_zero, List.setIfInBounds_toArray, List.set_cons_zero, List.set_cons_succ]))
    (refine wpAnyE_take (n := 12) (i := 3) (v := ?_) rfl (by kernel_rfl) (by kernel_rfl) (by kernel_rfl) (by kernel_rfl) (by kernel_rfl) (fun _ _ _ h => h) (Or.inl ⟨by rfl, ?_⟩) hHeld ?_; rotate_left; (focus (intro w hSw; (try dsimp only at hSw); go_simp; try (with_reducible rfl))); (try simp only [Act.put, List.getElem_toArray, List.getElem_cons_succ, List.getElem_cons_zero, List.setIfInBounds_toArray, List.set_cons_zero, List.set_cons_succ]))
    refine wpAnyE_ready (rs := [4]) (by kernel_rfl) (by simp) (AllReadyE.cons rfl (fun K hK => ?_) AllReadyE.nil)
    go_simp
    refine (ours_any _ _ _ _ _).mono ?_
    rintro e wA ⟨rfl, hbA⟩
    have HBA := Lib.hid (b_call (b_drew (Below.refl W8.heap.size W8)) hbA)
    have KA := HKA.out _ HBA.out
    obtain ⟨z0, z1, z2, z3⟩ := in_blk KA nn hnL
    have zf := KA.2.2
    have zl := KA.1
    clear KA hbA
    refine hK.out _ _ (HS13.out _ HBA.out) (fun hHeld => ?_)
    clear hK K
    (try simp only [Act.put, List.getElem_toArray, List.getElem_cons_succ, List.getElem_cons_zero, List.setIfInBounds_toArray, List.set_cons_zero, List.set_cons_succ])
    (refine wpAnyE_take (n := 12) (i := 5) (v := ?_) rfl (by kernel_rfl) (by kernel_rfl) (by kernel_rfl) (by kernel_rfl) (by kernel_rfl) (fun _ _ _ h => h) (Or.inl ⟨by rfl, ?_⟩) hHeld ?_; rotate_left; (focus (intro w hSw; (try dsimp only at hSw); go_simp; try (with_reducible rfl))); (try simp only [Act.put, List.getElem_toArray, List.getElem_cons_succ, List.getElem_cons_zero, List.setIfInBounds_toArray, List.set_cons_zero, List.set_cons_succ]))
    refine wpAnyE_ready (rs := [6]) (by kernel_rfl) (by simp) (AllReadyE.last rfl (fun K hK => ?_))
    go_simp
    refine hK.out _ _ (trivial) (fun hHeld => ?_)
    clear hK K
    (try simp only [Act.put, List.getElem_toArray, List.getElem_cons_succ, List.getElem_cons_zero, List.setIfInBounds_toArray, List.set_cons_zero, List.set_cons_succ])
    refine wpAnyE_done (by kernel_rfl) ?_
    go_wp2_with fail
    go_meet
    case rel => exact ⟨wA, HBA.out, rfl⟩
  case rest =>
  obtain ⟨wA, hbA, hwB⟩ := hcut
  obtain ⟨wB, hW9⟩ : ∃ x, x = wc := ⟨_, rfl⟩
  subst hW9
  have HWB := Lib.hid hwB
  have gB : wA.grownBy wB (some kb) := by rw [hwB]; exact gb_sets _ _ (gb_refl wA (some kb))
  have HGB := Lib.hid gB
  have HB3A := Lib.hid (b_call HB8.out hbA)
  have HC4A := Lib.hid (b_call HC8.out hbA)
  have hxw3 : w3.heap.size < x := by have := HXX.out; omega
  have hxk : x ≠ kb := by have := HKL.out; omega
  have XB := blk_grown (blk_below HX8.out hbA) gB (by intro e; injection e with e; exact hxk e)
  have HXB := Lib.hid XB
  have hxl := XB.1
  clear hwB gB hbA
  obtain ⟨c0, c1, c2, c3, cf⟩ := blk4 XB
  clear XB
  go_upto_region 15 with fail
  refine wp_named ?_
  intro wC hwC
  have HXC : Hid (Blk wC x [.slice pa pn pc, .slice la ln lc, .int .i64 kind, .slice (some ⟨kb, 0, none⟩) code.length cc]) := by show Blk wC x _; rw [hwC]; exact blk_set HXB.out 2 _
  have HGC : Hid (wB.grownBy wC (some x)) := by show wB.grownBy wC (some x); rw [hwC]; exact gb_set (gb_refl wB (some x)) 2 none _
  have hfk : fb ≠ kb := fun e => by
    have h1 := HTF.out; rw [e, HTK.out] at h1; injection h1 with h1; exact absurd h1 (by decide)
  have hfx : fb ≠ x := by have := HFBL.out.2; omega
  have hkl2 : kb < w3.heap.size := HKL.out
  have nk : ∀ {a b : Nat}, a ≠ b → some a ≠ some b := fun h e => h (by injection e)
  have HQC : Hid (Blk wC w3.heap.size [.bool ou, .slice oa on oc, .int .i64 om, .slice (some ⟨fb, 0, none⟩) L.length fc]) := Lib.hid (blk_grown (blk_grown (blk_below HX4.out HC4A.out) HGB.out (nk (by omega))) HGC.out (nk (by omega)))
  have HFC : Hid (Blk wC fb (fnE.row L)) := Lib.hid (blk_grown (blk_grown (blk_below HFB.out HB3A.out) HGB.out (nk hfk)) HGC.out (nk hfx))
  have HBC : Hid (Below W.heap.size W wC) := Lib.hid (b_grown (b_grown (b_call HB3.out HB3A.out) HGB.out HKBL.out.1) HGC.out (by have := HB3.out.size; omega))
  clear hwC c0 c1 c2 c3 cf
  obtain ⟨z0, z1, z2, z3⟩ := fn_blk HFC.out j hjL
  have zf := HFC.out.2.2
  have zl := HFC.out.1
  obtain ⟨_, _, _, e3, _⟩ := blk4 HQC.out
  obtain ⟨f0, f1, f2, f3, _⟩ := blk4 HXC.out
  go_cut [116] (fun v wx => wx = wC.drew.setCells fb (j * 4) [.slice pa pn pc, .slice la ln lc, .int .i64 kind, .slice (some ⟨kb, 0, none⟩) code.length cc])
  case first =>
    refine wp_region_E (S := (fun w' => w'.cell? ⟨w3.heap.size, 3, none⟩ = some (.slice (some ⟨fb, 0, none⟩) L.length fc) ∧ w'.cell? ⟨x, 0, none⟩ = some (.slice pa pn pc) ∧ w'.cell? ⟨x, 1, none⟩ = some (.slice la ln lc) ∧ w'.cell? ⟨x, 2, none⟩ = some (.int .i64 kind) ∧ w'.cell? ⟨x, 3, none⟩ = some (.slice (some ⟨kb, 0, none⟩) code.length cc))) 10 (by kernel_rfl) ⟨e3, f0, f1, f2, f3⟩ (fun hHeld => ?_)
    clear e3 f0 f1 f2 f3
    (refine wpAnyE_take (n := 12) (i := 0) (v := ?_) rfl (by kernel_rfl) (by kernel_rfl) (by kernel_rfl) (by kernel_rfl) (by kernel_rfl) (fun _ _ _ h => h) (Or.inl ⟨by rfl, ?_⟩) hHeld ?_; rotate_left; (focus (intro w hSw; (try dsimp only at hSw); go_simp; try (with_reducible rfl))); (try simp only [Act.put, List.getElem_toArray, List.getElem_cons_succ, List.getElem_cons_zero, List.setIfInBounds_toArray, List.set_cons_zero, List.set_cons_succ]))
    (refine wpAnyE_take (n := 12) (i := 1) (v := ?_) rfl (by kernel_rfl) (by kernel_rfl) (by kernel_rfl) (by kernel_rfl) (by kernel_rfl) (fun _ _ _ h => h) (Or.inl ⟨by rfl, ?_⟩) hHeld ?_; rotate_left; (focus (intro w hSw; (try dsimp only at hSw); go_simp; try (with_reducible rfl))); (try simp only [Act.put, List.getElem_toArray, List.getElem_cons_succ, List.getElem_cons_zero, List.setIfInBounds_toArray, List.set_cons_zero, List.set_cons_succ]))
    (refine wpAnyE_take (n := 12) (i := 2) (v := ?_) rfl (by kernel_rfl) (by kernel_rfl) (by kernel_rfl) (by kernel_rfl) (by kernel_rfl) (fun _ _ _ h => h) (Or.inl ⟨by rfl, ?_⟩) hHeld ?_; rotate_left; (focus (intro w hSw; (try dsimp only at hSw); go_simp; try (with_reducible rfl))); (try simp only [Act.put, List.getElem_toArray, List.getElem_cons_succ, List.getElem_cons_zero, List.setIfInBounds_toArray, List.set_cons_zero, List.set_cons_succ]))
    (refine wpAnyE_take (n := 12) (i := 3) (v := ?_) rfl (by kernel_rfl) (by kernel_rfl) (by kernel_rfl) (by kernel_rfl) (by kernel_rfl) (fun _ _ _ h => h) (Or.inl ⟨by rfl, ?_⟩) hHeld ?_; rotate_left; (focus (intro w hSw; (try dsimp only at hSw); go_simp; try (with_reducible rfl))); (try simp only [Act.put, List.getElem_toArray, List.getElem_cons_succ, List.getElem_cons_zero, List.setIfInBounds_toArray, List.set_cons_zero, List.set_cons_succ]))
    (refine wpAnyE_take (n := 12) (i := 4) (v := ?_) rfl (by kernel_rfl) (by kernel_rfl) (by kernel_rfl) (by kernel_rfl) (by kernel_rfl) (fun _ _ _ h => h) (Or.inl ⟨by rfl, ?_⟩) hHeld ?_; rotate_left; (focus (intro w hSw; (try dsimp only at hSw); go_simp; try (with_reducible rfl))); (try simp only [Act.put, List.getElem_toArray, List.getElem_cons_succ, List.getElem_cons_zero, List.setIfInBounds_toArray, List.set_cons_zero, List.set_cons_succ]))
    (refine wpAnyE_take (n := 12) (i := 5) (v := ?_) rfl (by kernel_rfl) (by kernel_rfl) (by kernel_rfl) (by kernel_rfl) (by kernel_rfl) (fun _ _ _ h => h) (Or.inl ⟨by rfl, ?_⟩) hHeld ?_; rotate_left; (focus (intro w hSw; (try dsimp only at hSw); go_simp; try (with_reducible rfl))); (try simp only [Act.put, List.getElem_toArray, List.getElem_cons_succ, List.getElem_cons_zero, List.setIfInBounds_toArray, List.set_cons_zero, List.set_cons_succ]))
    (refine wpAnyE_take (n := 12) (i := 6) (v := ?_) rfl (by kernel_rfl) (by kernel_rfl) (by kernel_rfl) (by kernel_rfl) (by kernel_rfl) (fun _ _ _ h => h) (Or.inl ⟨by rfl, ?_⟩) hHeld ?_; rotate_left; (focus (intro w hSw; (try dsimp only at hSw); go_simp; try (with_reducible rfl))); (try simp only [Act.put, List.getElem_toArray, List.getElem_cons_succ, List.getElem_cons_zero, List.setIfInBounds_toArray, List.set_cons_zero, List.set_cons_succ]))
    (refine wpAnyE_take (n := 12) (i := 7) (v := ?_) rfl (by kernel_rfl) (by kernel_rfl) (by kernel_rfl) (by kernel_rfl) (by kernel_rfl) (fun _ _ _ h => h) (Or.inl ⟨by rfl, ?_⟩) hHeld ?_; rotate_left; (focus (intro w hSw; (try dsimp only at hSw); go_simp; try (with_reducible rfl))); (try simp only [Act.put, List.getElem_toArray, List.getElem_cons_succ, List.getElem_cons_zero, List.setIfInBounds_toArray, List.set_cons_zero, List.set_cons_succ]))
    (refine wpAnyE_take (n := 12) (i := 8) (v := ?_) rfl (by kernel_rfl) (by kernel_rfl) (by kernel_rfl) (by kernel_rfl) (by kernel_rfl) (fun _ _ _ h => h) (Or.inl ⟨by rfl, ?_⟩) hHeld ?_; rotate_left; (focus (intro w hSw; (try dsimp only at hSw); go_simp; try (with_reducible rfl))); (try simp only [Act.put, List.getElem_toArray, List.getElem_cons_succ, List.getElem_cons_zero, List.setIfInBounds_toArray, List.set_cons_zero, List.set_cons_succ]))
    (refine wpAnyE_take (n := 12) (i := 9) (v := ?_) rfl (by kernel_rfl) (by kernel_rfl) (by kernel_rfl) (by kernel_rfl) (by kernel_rfl) (fun _ _ _ h => h) (Or.inl ⟨by rfl, ?_⟩) hHeld ?_; rotate_left; (focus (intro w hSw; (try dsimp only at hSw); go_simp; try (with_reducible rfl))); (try simp only [Act.put, List.getElem_toArray, List.getElem_cons_succ, List.getElem_cons_zero, List.setIfInBounds_toArray, List.set_cons_zero, List.set_cons_succ]))
    refine wpAnyE_ready (rs := [10]) (by kernel_rfl) (by simp) (AllReadyE.last rfl (fun K hK => ?_))
    go_simp
    refine hK.out _ _ (trivial) (fun hHeld => ?_)
    clear hK K
    (try simp only [Act.put, List.getElem_toArray, List.getElem_cons_succ, List.getElem_cons_zero, List.setIfInBounds_toArray, List.set_cons_zero, List.set_cons_succ])
    refine wpAnyE_done (by kernel_rfl) ?_
    go_wp2_with fail
    go_meet
    case rel => exact rfl
  case rest =>
  clear z0 z1 z2 z3 zf zl e3 f0 f1 f2 f3
  obtain ⟨wE, hWE⟩ : ∃ x, x = wc := ⟨_, rfl⟩
  subst hWE
  have hwE := hcut
  have HGE : Hid (wC.drew.grownBy wE (some fb)) := by show wC.drew.grownBy wE (some fb); rw [hwE]; exact gb_sets _ _ (gb_refl wC.drew (some fb))
  have HVD : Hid (L[j] = ⟨⟨pa, pn, pc⟩, ⟨la, ln, lc⟩, r, ⟨some ⟨kb, 0, none⟩, code.length, cc⟩⟩) := HV.out.symm
  have HFD : Hid (C.fs[j] = ⟨ps, ls, r, code⟩) := HF.out.symm
  have hnC : nn < C.fs[j].code.length := by rw [HFD.out]; exact hnL
  have hcn : C.fs[j].code[nn] = ⟨o1, o2, o3, o4⟩ := by simp only [HFD.out]; exact HOLD.out.symm
  have FE : Blk wE fb (fnE.row (L.set j ⟨L[j].p, L[j].l, kind, L[j].c⟩)) := by
    rw [HVD.out, hwE]
    exact blk_setI (c := fnE) (blk_drew HFC.out) ⟨⟨pa, pn, pc⟩, ⟨la, ln, lc⟩, kind, ⟨some ⟨kb, 0, none⟩, code.length, cc⟩⟩
  have hsAB := HGB.out.size; have hsBC := HGC.out.size; have hsCE : wC.heap.size ≤ wE.heap.size := HGE.out.size
  have hs3A := HB3A.out.size
  have T : Turned w3 wE kb fb nn ⟨iop, ix, ia, ib⟩ C.fs[j].code[nn] := by
    refine ⟨by omega, fun b hb h1 h2 => ?_, fun L' h => ?_, HTK.out, HTF.out, fun L' h h1 => ?_⟩
    · have q1 := HGE.out.block b (show b < wC.heap.size by omega) (nk h2)
      have q2 := HGC.out.block b (by omega) (nk (show b ≠ x by omega))
      have q3 := HGB.out.block b (by omega) (nk h1)
      have q4 := HB3A.out.block b hb
      exact q1.trans (q2.trans (q3.trans q4))
    · have b1 := blk_setI (c := inE) (n := nn) (blk_below h HB3A.out) ⟨iop, ix, ia, ib⟩
      have b2 : Blk wB kb (inE.row (L'.set nn ⟨iop, ix, ia, ib⟩)) := by rw [HWB.out]; exact b1
      exact blk_grown (blk_drew (blk_grown b2 HGC.out (nk (fun e => hxk e.symm)))) HGE.out (nk (fun e => hfk e.symm))
    · rw [hcn, HOLD.out]
      exact blk_same h HKB.out h1 hnL
  obtain ⟨D, hRD, hSD, hDC⟩ := same_prog (kind := kind) (q := ⟨ou, ⟨oa, on, oc⟩, om, ⟨some ⟨fb, 0, none⟩, L.length, fc⟩⟩) HOU.out HOM.out HOG.out HOS.out HALL.out HSM.out hjL hjC rfl rfl HLC.out.1 HLC.out.2 (by rw [HVD.out]) hnC T FE
  have hdd : d = true ↔ D = C := by
    rw [hDC, hcn, HDD.out, HQ.out, HFD.out]
    simp [and_assoc]
  have HRD := Lib.hid hRD; have HSD := Lib.hid hSD; have HDD2 := Lib.hid hdd
  have HBE : Hid (Below W.heap.size W wE) := Lib.hid (b_grown (b_drew HBC.out) HGE.out HFBL.out.1)
  have HQE : Hid (Blk wE w3.heap.size [.bool ou, .slice oa on oc, .int .i64 om, .slice (some ⟨fb, 0, none⟩) L.length fc]) := Lib.hid (blk_grown (blk_drew HQC.out) HGE.out (nk (by have := HFBL.out.2; omega)))
  clear hwE hcut T FE hRD hSD hDC hdd
  have HS16 : Hid (∀ w', Below wE.heap.size wE w' → (w'.cell? ⟨w3.heap.size, 0, none⟩ = some (.bool ou) ∧ w'.cell? ⟨w3.heap.size, 1, none⟩ = some (.slice oa on oc) ∧ w'.cell? ⟨w3.heap.size, 2, none⟩ = some (.int .i64 om) ∧ w'.cell? ⟨w3.heap.size, 3, none⟩ = some (.slice (some ⟨fb, 0, none⟩) L.length fc)) ∧ (w'.cell? ⟨w.heap.size, 0, none⟩ = some (.bool qu) ∧ w'.cell? ⟨w.heap.size, 1, none⟩ = some (.slice qa qn qc) ∧ w'.cell? ⟨w.heap.size, 2, none⟩ = some (.int .i64 qm) ∧ w'.cell? ⟨w.heap.size, 3, none⟩ = some (.slice ra rn rc))) := Lib.hid (fun w' hb => by
    obtain ⟨y0, y1, y2, y3, _⟩ := blk4 (blk_below HQE.out hb)
    exact ⟨⟨y0, y1, y2, y3⟩, HK.out w' (b_call HBE.out hb)⟩)
  go_upto_region 16 with fail
  refine wp_region_held_drew (S := (fun w' => (w'.cell? ⟨w3.heap.size, 0, none⟩ = some (.bool ou) ∧ w'.cell? ⟨w3.heap.size, 1, none⟩ = some (.slice oa on oc) ∧ w'.cell? ⟨w3.heap.size, 2, none⟩ = some (.int .i64 om) ∧ w'.cell? ⟨w3.heap.size, 3, none⟩ = some (.slice (some ⟨fb, 0, none⟩) L.length fc)) ∧ (w'.cell? ⟨w.heap.size, 0, none⟩ = some (.bool qu) ∧ w'.cell? ⟨w.heap.size, 1, none⟩ = some (.slice qa qn qc) ∧ w'.cell? ⟨w.heap.size, 2, none⟩ = some (.int .i64 qm) ∧ w'.cell? ⟨w.heap.size, 3, none⟩ = some (.slice ra rn rc)))) (by kernel_rfl) (HS16.out _ (b_drew (Below.refl _ _))) (fun hHeld => ?_)
  (refine wpAnyH_take (i := 0) (v := ?_) rfl (by kernel_rfl) (by kernel_rfl) (by kernel_rfl) (fun _ _ _ h => h) (Or.inl ⟨by rfl, ?_⟩) hHeld ?_; rotate_left; (focus (intro w hSw; (try dsimp only at hSw); go_simp; try (with_reducible rfl))); (try simp only [Act.put, List.getElem_toArray, List.getElem_cons_succ, List.getElem_cons_zero, List.setIfInBounds_toArray, List.set_cons_zero, List.set_cons_succ]))
  (refine wpAnyH_take (i := 1) (v := ?_) rfl (by kernel_rfl) (by kernel_rfl) (by kernel_rfl) (fun _ _ _ h => h) (Or.inl ⟨by rfl, ?_⟩) hHeld ?_; rotate_left; (focus (intro w hSw; (try dsimp only at hSw); go_simp; try (with_reducible rfl))); (try simp only [Act.put, List.getElem_toArray, List.getElem_cons_succ, List.getElem_cons_zero, List.setIfInBounds_toArray, List.set_cons_zero, List.set_cons_succ]))
  (refine wpAnyH_take (i := 4) (v := ?_) rfl (by kernel_rfl) (by kernel_rfl) (by kernel_rfl) (fun _ _ _ h => h) (Or.inl ⟨by rfl, ?_⟩) hHeld ?_; rotate_left; (focus (intro w hSw; (try dsimp only at hSw); go_simp; try (with_reducible rfl))); (try simp only [Act.put, List.getElem_toArray, List.getElem_cons_succ, List.getElem_cons_zero, List.setIfInBounds_toArray, List.set_cons_zero, List.set_cons_succ]))
  refine wpAnyH_ready (rs := [2]) (by kernel_rfl) (by simp) (AllReadyH.cons rfl (fun K hK => ?_) AllReadyH.nil)
  go_simp
  refine (ours25_any ⟨qu, ⟨qa, qn, qc⟩, qm, ⟨ra, rn, rc⟩⟩ C _ (readP_below HR.out (b_call HBE.out (by (repeat' (first | exact Below.refl _ _ | assumption | refine b_alloc ?_ _ | refine b_over ?_ _ | refine b_drew ?_ | refine b_call ?_ (by assumption)))))) HSM.out).mono ?_
  rintro e w21 ⟨o4, rfl, ho4, hb21⟩
  have HO4 := Lib.hid ho4
  obtain ⟨ou4, ⟨oa4, on4, oc4⟩, om4, ⟨pa4, pn4, pc4⟩⟩ := o4
  clear ho4
  unfold aggP Sl.v
  simp only
  refine hK.out _ _ (HS16.out _ (by (repeat' (first | exact Below.refl _ _ | assumption | refine b_alloc ?_ _ | refine b_over ?_ _ | refine b_drew ?_ | refine b_call ?_ (by assumption))))) (fun hHeld => ?_)
  clear hK K
  (try simp only [Act.put, List.getElem_toArray, List.getElem_cons_succ, List.getElem_cons_zero, List.setIfInBounds_toArray, List.set_cons_zero, List.set_cons_succ])
  refine wpAnyH_ready (rs := [3]) (by kernel_rfl) (by simp) (AllReadyH.cons rfl (fun K hK => ?_) AllReadyH.nil)
  go_simp
  refine (psame_any ⟨ou, ⟨oa, on, oc⟩, om, ⟨some ⟨fb, 0, none⟩, L.length, fc⟩⟩ ⟨ou4, ⟨oa4, on4, oc4⟩, om4, ⟨pa4, pn4, pc4⟩⟩ D C _ (readP_below HRD.out (by (repeat' (first | exact Below.refl _ _ | assumption | refine b_alloc ?_ _ | refine b_over ?_ _ | refine b_drew ?_ | refine b_call ?_ (by assumption))))) HO4.out HSD.out HSM.out).mono ?_
  rintro e w22 ⟨bb, rfl, hbb, hb22⟩
  obtain rfl : bb = d := by rw [Bool.eq_iff_iff, hbb, HDD2.out]
  clear hbb
  refine hK.out _ _ (HS16.out _ (by (repeat' (first | exact Below.refl _ _ | assumption | refine b_alloc ?_ _ | refine b_over ?_ _ | refine b_drew ?_ | refine b_call ?_ (by assumption))))) (fun hHeld => ?_)
  clear hK K
  (try simp only [Act.put, List.getElem_toArray, List.getElem_cons_succ, List.getElem_cons_zero, List.setIfInBounds_toArray, List.set_cons_zero, List.set_cons_succ])
  (refine wpAnyH_take (i := 5) (v := ?_) rfl (by kernel_rfl) (by kernel_rfl) (by kernel_rfl) (fun _ _ _ h => h) (Or.inl ⟨by rfl, ?_⟩) hHeld ?_; rotate_left; (focus (intro w hSw; (try dsimp only at hSw); go_simp; try (with_reducible rfl))); (try simp only [Act.put, List.getElem_toArray, List.getElem_cons_succ, List.getElem_cons_zero, List.setIfInBounds_toArray, List.set_cons_zero, List.set_cons_succ]))
  (refine wpAnyH_take (i := 6) (v := ?_) rfl (by kernel_rfl) (by kernel_rfl) (by kernel_rfl) (fun _ _ _ h => h) (Or.inl ⟨by rfl, ?_⟩) hHeld ?_; rotate_left; (focus (intro w hSw; (try dsimp only at hSw); go_simp; try (with_reducible rfl))); (try simp only [Act.put, List.getElem_toArray, List.getElem_cons_succ, List.getElem_cons_zero, List.setIfInBounds_toArray, List.set_cons_zero, List.set_cons_succ]))
  (refine wpAnyH_take (i := 7) (v := ?_) rfl (by kernel_rfl) (by kernel_rfl) (by kernel_rfl) (fun _ _ _ h => h) (Or.inl ⟨by rfl, ?_⟩) hHeld ?_; rotate_left; (focus (intro w hSw; (try dsimp only at hSw); go_simp; try (with_reducible rfl))); (try simp only [Act.put, List.getElem_toArray, List.getElem_cons_succ, List.getElem_cons_zero, List.setIfInBounds_toArray, List.set_cons_zero, List.set_cons_succ]))
  (refine wpAnyH_take (i := 9) (v := ?_) rfl (by kernel_rfl) (by kernel_rfl) (by kernel_rfl) (fun _ _ _ h => h) (Or.inl ⟨by rfl, ?_⟩) hHeld ?_; rotate_left; (focus (intro w hSw; (try dsimp only at hSw); go_simp; try (with_reducible rfl))); (try simp only [Act.put, List.getElem_toArray, List.getElem_cons_succ, List.getElem_cons_zero, List.setIfInBounds_toArray, List.set_cons_zero, List.set_cons_succ]))
  refine wpAnyH_ready (rs := [8]) (by kernel_rfl) (by simp) (AllReadyH.cons rfl (fun K hK => ?_) AllReadyH.nil)
  go_simp
  refine (ours25_any ⟨qu, ⟨qa, qn, qc⟩, qm, ⟨ra, rn, rc⟩⟩ C _ (readP_below HR.out (b_call HBE.out (by (repeat' (first | exact Below.refl _ _ | assumption | refine b_alloc ?_ _ | refine b_over ?_ _ | refine b_drew ?_ | refine b_call ?_ (by assumption)))))) HSM.out).mono ?_
  rintro e w23 ⟨o5, rfl, ho5, hb23⟩
  have HO5 := Lib.hid ho5
  obtain ⟨ou5, ⟨oa5, on5, oc5⟩, om5, ⟨pa5, pn5, pc5⟩⟩ := o5
  clear ho5
  unfold aggP Sl.v
  simp only
  refine hK.out _ _ (HS16.out _ (by (repeat' (first | exact Below.refl _ _ | assumption | refine b_alloc ?_ _ | refine b_over ?_ _ | refine b_drew ?_ | refine b_call ?_ (by assumption))))) (fun hHeld => ?_)
  clear hK K
  (try simp only [Act.put, List.getElem_toArray, List.getElem_cons_succ, List.getElem_cons_zero, List.setIfInBounds_toArray, List.set_cons_zero, List.set_cons_succ])
  refine wpAnyH_ready (rs := [10]) (by kernel_rfl) (by simp) (AllReadyH.cons rfl (fun K hK => ?_) AllReadyH.nil)
  go_simp
  refine (ours25_any ⟨qu, ⟨qa, qn, qc⟩, qm, ⟨ra, rn, rc⟩⟩ C _ (readP_below HR.out (b_call HBE.out (by (repeat' (first | exact Below.refl _ _ | assumption | refine b_alloc ?_ _ | refine b_over ?_ _ | refine b_drew ?_ | refine b_call ?_ (by assumption)))))) HSM.out).mono ?_
  rintro e w24 ⟨o6, rfl, ho6, hb24⟩
  have HO6 := Lib.hid ho6
  obtain ⟨ou6, ⟨oa6, on6, oc6⟩, om6, ⟨pa6, pn6, pc6⟩⟩ := o6
  clear ho6
  unfold aggP Sl.v
  simp only
  refine hK.out _ _ (HS16.out _ (by (repeat' (first | exact Below.refl _ _ | assumption | refine b_alloc ?_ _ | refine b_over ?_ _ | refine b_drew ?_ | refine b_call ?_ (by assumption))))) (fun hHeld => ?_)
  clear hK K
  (try simp only [Act.put, List.getElem_toArray, List.getElem_cons_succ, List.getElem_cons_zero, List.setIfInBounds_toArray, List.set_cons_zero, List.set_cons_succ])
  refine wpAnyH_ready (rs := [11]) (by kernel_rfl) (by simp) (AllReadyH.cons rfl (fun K hK => ?_) AllReadyH.nil)
  go_simp
  refine (psame_any ⟨ou5, ⟨oa5, on5, oc5⟩, om5, ⟨pa5, pn5, pc5⟩⟩ ⟨ou6, ⟨oa6, on6, oc6⟩, om6, ⟨pa6, pn6, pc6⟩⟩ C C _ (readP_below HO5.out (by (repeat' (first | exact Below.refl _ _ | assumption | refine b_alloc ?_ _ | refine b_over ?_ _ | refine b_drew ?_ | refine b_call ?_ (by assumption))))) HO6.out HSM.out HSM.out).mono ?_
  rintro e w25 ⟨bb, rfl, hbb, hb25⟩
  obtain rfl : bb = true := hbb.2 rfl
  clear hbb
  refine hK.out _ _ (HS16.out _ (by (repeat' (first | exact Below.refl _ _ | assumption | refine b_alloc ?_ _ | refine b_over ?_ _ | refine b_drew ?_ | refine b_call ?_ (by assumption))))) (fun hHeld => ?_)
  clear hK K
  (try simp only [Act.put, List.getElem_toArray, List.getElem_cons_succ, List.getElem_cons_zero, List.setIfInBounds_toArray, List.set_cons_zero, List.set_cons_succ])
  (refine wpAnyH_take (i := 12) (v := ?_) rfl (by kernel_rfl) (by kernel_rfl) (by kernel_rfl) (fun _ _ _ h => h) (Or.inl ⟨by rfl, ?_⟩) hHeld ?_; rotate_left; (focus (intro w hSw; (try dsimp only at hSw); go_simp; try (with_reducible rfl))); (try simp only [Act.put, List.getElem_toArray, List.getElem_cons_succ, List.getElem_cons_zero, List.setIfInBounds_toArray, List.set_cons_zero, List.set_cons_succ]))
  (refine wpAnyH_take (i := 13) (v := ?_) rfl (by kernel_rfl) (by kernel_rfl) (by kernel_rfl) (fun _ _ _ h => h) (Or.inl ⟨by rfl, ?_⟩) hHeld ?_; rotate_left; (focus (intro w hSw; (try dsimp only at hSw); go_simp; try (with_reducible rfl))); (try simp only [Act.put, List.getElem_toArray, List.getElem_cons_succ, List.getElem_cons_zero, List.setIfInBounds_toArray, List.set_cons_zero, List.set_cons_succ]))
  refine wpAnyH_ready (rs := [14]) (by kernel_rfl) (by simp) (AllReadyH.cons rfl (fun K hK => ?_) AllReadyH.nil)
  go_simp
  refine (awake25 _).mono ?_
  rintro e w26 ⟨rfl, hb26⟩
  refine hK.out _ _ (HS16.out _ (by (repeat' (first | exact Below.refl _ _ | assumption | refine b_alloc ?_ _ | refine b_over ?_ _ | refine b_drew ?_ | refine b_call ?_ (by assumption))))) (fun hHeld => ?_)
  clear hK K
  (try simp only [Act.put, List.getElem_toArray, List.getElem_cons_succ, List.getElem_cons_zero, List.setIfInBounds_toArray, List.set_cons_zero, List.set_cons_succ])
  (refine wpAnyH_take (i := 15) (v := ?_) rfl (by kernel_rfl) (by kernel_rfl) (by kernel_rfl) (fun _ _ _ h => h) (Or.inl ⟨by rfl, ?_⟩) hHeld ?_; rotate_left; (focus (intro w hSw; (try dsimp only at hSw); go_simp; try (with_reducible rfl))); (try simp only [Act.put, List.getElem_toArray, List.getElem_cons_succ, List.getElem_cons_zero, List.setIfInBounds_toArray, List.set_cons_zero, List.set_cons_succ]))
  (refine wpAnyH_take (i := 16) (v := ?_) rfl (by kernel_rfl) (by kernel_rfl) (by kernel_rfl) (fun _ _ _ h => h) (Or.inl ⟨by rfl, ?_⟩) hHeld ?_; rotate_left; (focus (intro w hSw; (try dsimp only at hSw); go_simp; try (with_reducible rfl))); (try simp only [Act.put, List.getElem_toArray, List.getElem_cons_succ, List.getElem_cons_zero, List.setIfInBounds_toArray, List.set_cons_zero, List.set_cons_succ]))
  refine wpAnyH_done (by kernel_rfl) ?_ _
  go_wp2
  go_ret
  exact ⟨rfl, b_call HBW.out (b_call HBE.out (by (repeat' (first | exact Below.refl _ _ | assumption | refine b_alloc ?_ _ | refine b_over ?_ _ | refine b_drew ?_ | refine b_call ?_ (by assumption)))))⟩
end Go.Proofs.Ytdhkemnebppkhaa
