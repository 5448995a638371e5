/- Layer 34: the document's Kinds, Line, Print. Conditions: those stated. Layer 34: the document's Print. Conditions: those stated. -/
import Derived.Test.YtedmjlhgpdeafaaDoorQAsmA
import Derived.Test.YtedmjlhgpdeafaaDoorQAsmM
import Derived.Test.YtedmjlhgpdeafaaDoorQHeldE
import Derived.Test.YtedmjlhgpdeafaaDoorQCut
import Derived.Test.YtedmjlhgpdeafaaDoorQMayPa
namespace Go.Proofs.YtedmjlhgpdeafaaDoor
section
open Go.RowKit
set_option linter.unusedVariables false
set_option linter.unusedSimpArgs false
theorem kindS_cut : ∀ d : Fin 4, (⟨#[105, 102, 114, 112]⟩ : ByteArray).extract d.val (d.val + 1) = ⟨#[kindD (d.val : Int)]⟩ := by decide
theorem kinds_of {xs : List Int} {m : Int} (h : kindsB xs m = true) : (∀ k ∈ xs, 0 ≤ k ∧ k ≤ 3) ∧ (xs.length : Int) ≤ m := by
  unfold kindsB at h
  rw [Bool.and_eq_true, decide_eq_true_eq] at h
  refine ⟨fun k hk => ?_, h.2⟩
  have q := List.all_eq_true.1 h.1 k hk
  unfold kindB at q
  rw [Bool.and_eq_true, decide_eq_true_eq, decide_eq_true_eq] at q
  exact q
set_option maxRecDepth 100000 in
set_option maxHeartbeats 1000000 in
theorem rkinds_any (u : Value) (ls : List Int) (w : World) (h : ReadI w u ls) (hb : ∀ k ∈ ls, 0 ≤ k ∧ k ≤ 3) (hl : ls.length ≤ 100) : Calls Tryd.prog 23 #[u] w fun e w' => e = .returned (strV (kindsL ls)) ∧ w = w' := by
  obtain ⟨a, cap, rfl⟩ := readI_len h
  have H := Lib.hid h
  have HB := Lib.hid hb
  have hl0 : (0 : Int) ≤ ls.length := by omega
  have hl1 : (ls.length : Int) ≤ 100 := by omega
  clear h hb
  go_enter Tryd.func23, Tryd.ntmps23
  go_wp2_with fail
  go_loopw [3, 8] (fun b i wr => wr = w ∧ ∃ k : Nat, k ≤ ls.length ∧ i = .int .i64 k ∧ ∃ y : List UInt8, b = strV y ∧ Hid (y = (ls.take k).map kindD)) (fun _ i _ => ls.length - (intOf i).toNat)
  case atStart => exact ⟨rfl, 0, Nat.zero_le _, rfl, [], rfl, Lib.hid rfl⟩
  case round =>
    obtain ⟨rfl, k, hk, rfl, y, rfl, HY⟩ := hrel
    have hyl : y.length ≤ 100 := by rw [HY.out]; simp; omega
    unfold strV
    by_cases hlt : k < ls.length
    · have hk1 : (k : Int) < ls.length := by omega
      have hk0 : (0 : Int) ≤ k := by omega
      have HLT := Lib.hid hlt
      obtain ⟨bb, oo, cap', e1, r1, r2, r3, r4⟩ := readI_pos H.out (by omega)
      injection e1 with e1 _ e3
      subst e1
      subst e3
      have hc := r4 k hlt
      have hd := HB.out (ls[k]) (List.getElem_mem hlt)
      obtain ⟨dd, hdd⟩ : ∃ dd : Nat, ls[k] = dd := ⟨ls[k].toNat, by omega⟩
      have hdq : dd < 4 := by omega
      have hxt := kindS_cut ⟨dd, hdq⟩
      simp only at hxt
      have HD := Lib.hid hdd
      rw [List.getD_eq_getElem?_getD, List.getElem?_eq_getElem hlt, Option.getD_some] at hc
      replace hc : wr.cell? ⟨bb, oo + k, none⟩ = some (.int .i64 (dd : Int)) := hc.trans (congrArg (fun z => some (Value.int .i64 z)) hdd)
      have hkc : (k : Int) < cap := by omega
      clear hdd hd r4 r1 r2
      go_wp2_with fail
      refine ⟨⟨trivial, k + 1, by have := HLT.out; omega, by first | rfl | go_num, y ++ [kindD (dd : Int)], congrArg Value.string (ba_append y [kindD (dd : Int)]), Lib.hid (by rw [HY.out, List.take_succ_eq_append_getElem HLT.out, List.map_append]; exact congrArg (fun z => List.map kindD (List.take k ls) ++ [kindD z]) HD.out.symm)⟩, by have := HLT.out; simp [intOf] <;> omega⟩
    · have HE : Hid (y = ls.map kindD) := Lib.hid (by rw [HY.out, show k = ls.length by omega, List.take_length])
      by_cases h0 : ls = []
      · have h1 : y = [] := by rw [HE.out, h0]; rfl
        have HK : Hid (kindsL ls = [45]) := Lib.hid (by rw [h0]; rfl)
        subst h1
        clear h0
        go_wp2_with fail
        go_ret
        refine ⟨?_, rfl⟩
        rw [HK.out]; rfl
      · have hy0 : y.isEmpty = false := by
          rw [HE.out]
          cases ls with
          | nil => exact absurd rfl h0
          | cons => rfl
        have HK : Hid (kindsL ls = y) := Lib.hid (by unfold kindsL; rw [if_neg h0, HE.out])
        clear h0
        go_wp2_with fail
        go_ret
        refine ⟨?_, rfl⟩
        rw [HK.out]; rfl
set_option maxRecDepth 100000 in
set_option maxHeartbeats 4000000 in
theorem rline_any (op x a b : Int) (hm : mayB op x a b = true) (hx0 : 0 ≤ x) (hx1 : x < 18446744073709551616) (w : World) : Calls Tryd.prog 16 #[.agg #[.int .i64 op, .int .u64 x, .int .i64 a, .int .i64 b]] w fun e w' => e = .returned (strV (lineL ⟨op, x, a, b⟩)) ∧ Below w.heap.size w w' := by
  obtain ⟨⟨o0, o1⟩, ⟨a0, a1⟩, b0, b1⟩ := may_bd hm
  obtain ⟨h120, h97, h98⟩ := has_xs op
  have h4 : kindOf op ≠ 4 := fun q => by rw [may_four q] at hm; cases hm
  have h5 := kind_le op
  obtain ⟨y, hy⟩ : ∃ y, y = nameL op.toNat := ⟨_, rfl⟩
  have hyl : y.length ≤ 6 := by rw [hy]; exact name_len _
  have HNM : Hid (Value.string (nameS op.toNat) = .string ⟨y.toArray⟩) := Lib.hid (by rw [hy]; exact strV_of _)
  have HY := Lib.hid hy
  have HWD : Hid (∀ w, Calls Tryd.prog 42 #[.int .u64 x] w fun e w' => e = .returned (strV (wideL x)) ∧ w = w') := Lib.hid (fun w => by
    have q := rwide_any x.toNat (by omega) w
    rw [show ((x.toNat : Nat) : Int) = x by omega] at q
    exact q)
  have hwl := wide_len x
  have HNA : Hid (∀ w, Calls Tryd.prog 24 #[.int .i64 a] w fun e w' => e = .returned (strV (numI a)) ∧ Below w.heap.size w w') := Lib.hid (fun w => by
    have q := rnum_any a.toNat (by omega) w
    rw [show ((a.toNat : Nat) : Int) = a by omega] at q
    exact q)
  have hal := numI_len a1
  have HNB : Hid (∀ w, Calls Tryd.prog 24 #[.int .i64 b] w fun e w' => e = .returned (strV (numI b)) ∧ Below w.heap.size w w') := Lib.hid (fun w => by
    have q := rnum_any b.toNat (by omega) w
    rw [show ((b.toNat : Nat) : Int) = b by omega] at q
    exact q)
  have hbl := numI_len b1
  have hwl2 : (wideL x).length ≤ 18 := by omega
  have HON : Hid (op.toNat < 37) := Lib.hid (by omega)
  clear hy hm hwl
  go_enter Tryd.func16, Tryd.ntmps16
  go_upto_region 1 with fail
  refine wp_named ?_
  intro W1 hW1
  have HX1 : Hid (Blk W1 w.heap.size [.int .i64 op, .int .u64 x, .int .i64 a, .int .i64 b]) := Lib.hid (by rw [hW1]; exact blk_new _ _ _)
  have HW1 : Hid (Below w.heap.size w W1) := Lib.hid (by rw [hW1]; exact b_alloc (Below.refl _ _) _)
  clear hW1
  have HC : Hid (∀ w', Below W1.heap.size W1 w' → w'.cell? ⟨w.heap.size, 0, none⟩ = some (.int .i64 op)) := Lib.hid (fun w' hb => (blk4 (blk_below HX1.out hb)).1)
  refine wp_region_held_drew (S := fun w' => w'.cell? ⟨w.heap.size, 0, none⟩ = some (.int .i64 op)) (by kernel_rfl) (HC.out _ (b_drew (Below.refl _ _))) (fun hHeld => ?_)
  refine atI 1 ?_
  iterate 2 (refine takeN (v := ?_) rfl (by rfl) ?_ hHeld ?_; rotate_left; (focus (intro w hSw; (try dsimp only at hSw); go_simp; try (with_reducible rfl))); (try simp only [Act.put, Nat.reduceAdd, List.getElem_toArray, List.getElem_cons_succ, List.getElem_cons_zero, List.setIfInBounds_toArray, List.set_cons_zero, List.set_cons_succ]))
  refine atIo ?_
  refine wpAnyH_ready (rs := [0]) (by kernel_rfl) (by simp) (AllReadyH.cons rfl (fun K hK => ?_) AllReadyH.nil)
  go_simp
  refine (names_any _).mono ?_
  rintro e W2 ⟨rfl, hW2⟩
  have HB0 : Hid (Below W1.heap.size W1 W2) := Lib.hid (by rw [hW2]; exact b_alloc (b_drew (Below.refl _ _)) _)
  have HCN : Hid (W2.cell? ⟨W1.heap.size, op.toNat, none⟩ = some (.string ⟨y.toArray⟩)) := Lib.hid (by
    rw [hW2, ← HNM.out]
    have q := World.cell?_alloc_new (w := W1.drew) (c := nameTab) (t := 9) (i := op.toNat)
    exact q.trans (names_at _ HON.out))
  clear hW2
  refine hK.out _ _ (HC.out _ HB0.out) (fun hHeld => ?_)
  clear hK K
  (try simp only [Act.put, List.getElem_toArray, List.getElem_cons_succ, List.getElem_cons_zero, List.setIfInBounds_toArray, List.set_cons_zero, List.set_cons_succ])
  refine wpAnyH_switch (S' := fun w' => w'.cell? ⟨w.heap.size, 0, none⟩ = some (.int .i64 op) ∧ w'.cell? ⟨W1.heap.size, op.toNat, none⟩ = some (.string ⟨y.toArray⟩)) (fun _ h => h.1) ⟨HC.out _ HB0.out, HCN.out⟩ (fun hHeld => ?_)
  refine atI 3 ?_
  iterate 3 (refine takeN (v := ?_) rfl (by rfl) ?_ hHeld ?_; rotate_left; (focus (intro w hSw; (try dsimp only at hSw); go_simp; try (with_reducible rfl))); (try simp only [Act.put, Nat.reduceAdd, List.getElem_toArray, List.getElem_cons_succ, List.getElem_cons_zero, List.setIfInBounds_toArray, List.set_cons_zero, List.set_cons_succ]))
  refine atIo ?_
  refine wpAnyH_done (by kernel_rfl) ?_ _
  clear hHeld
  obtain ⟨c0, c1, c2, c3, cf⟩ := blk4 (blk_below HX1.out HB0.out)
  have cz := (blk_below HX1.out HB0.out).1
  rcases (show kindOf op = 0 ∨ kindOf op = 1 ∨ kindOf op = 2 ∨ kindOf op = 3 by omega) with hκ | hκ | hκ | hκ
  · rw [hκ] at h120 h97 h98
    replace h120 : hasB op 120 = false := h120
    replace h97 : hasB op 97 = false := h97
    replace h98 : hasB op 98 = false := h98
    go_wp2_with fail
    refine (has_any _ _ _).mono ?_
    rintro e v0 ⟨rfl, hv0⟩
    replace HB0 : Hid (Below W1.heap.size W1 v0) := Lib.hid (b_call HB0.out hv0)
    clear c0 c1 c2 c3 cf hv0
    obtain ⟨c0, c1, c2, c3, cf⟩ := blk4 (blk_below HX1.out HB0.out)
    have cz0 := (blk_below HX1.out HB0.out).1
    go_wp2_with fail
    refine (has_any _ _ _).mono ?_
    rintro e v1 ⟨rfl, hv1⟩
    replace HB0 : Hid (Below W1.heap.size W1 v1) := Lib.hid (b_call HB0.out hv1)
    clear c0 c1 c2 c3 cf hv1
    obtain ⟨c0, c1, c2, c3, cf⟩ := blk4 (blk_below HX1.out HB0.out)
    have cz1 := (blk_below HX1.out HB0.out).1
    go_wp2_with fail
    refine (has_any _ _ _).mono ?_
    rintro e v2 ⟨rfl, hv2⟩
    replace HB0 : Hid (Below W1.heap.size W1 v2) := Lib.hid (b_call HB0.out hv2)
    clear c0 c1 c2 c3 cf hv2
    obtain ⟨c0, c1, c2, c3, cf⟩ := blk4 (blk_below HX1.out HB0.out)
    have cz2 := (blk_below HX1.out HB0.out).1
    go_wp2_with fail
    go_ret
    refine ⟨?_, b_call HW1.out HB0.out⟩
    have HF : Hid (lineL ⟨op, x, a, b⟩ = y) := Lib.hid (by unfold lineL argsL; simp only [hκ]; rw [← HY.out]; simp)
    rw [HF.out]
    rfl
  · rw [hκ] at h120 h97 h98
    replace h120 : hasB op 120 = true := h120
    replace h97 : hasB op 97 = false := h97
    replace h98 : hasB op 98 = false := h98
    go_wp2_with fail
    refine (has_any _ _ _).mono ?_
    rintro e v0 ⟨rfl, hv0⟩
    replace HB0 : Hid (Below W1.heap.size W1 v0) := Lib.hid (b_call HB0.out hv0)
    clear c0 c1 c2 c3 cf hv0
    obtain ⟨c0, c1, c2, c3, cf⟩ := blk4 (blk_below HX1.out HB0.out)
    have cz0 := (blk_below HX1.out HB0.out).1
    go_wp2_with fail
    refine (HWD.out _).mono ?_
    rintro e v1 ⟨rfl, rfl⟩
    unfold strV
    go_wp2_with fail
    refine (has_any _ _ _).mono ?_
    rintro e v2 ⟨rfl, hv2⟩
    replace HB0 : Hid (Below W1.heap.size W1 v2) := Lib.hid (b_call HB0.out hv2)
    clear c0 c1 c2 c3 cf hv2
    obtain ⟨c0, c1, c2, c3, cf⟩ := blk4 (blk_below HX1.out HB0.out)
    have cz2 := (blk_below HX1.out HB0.out).1
    go_wp2_with fail
    refine (has_any _ _ _).mono ?_
    rintro e v3 ⟨rfl, hv3⟩
    replace HB0 : Hid (Below W1.heap.size W1 v3) := Lib.hid (b_call HB0.out hv3)
    clear c0 c1 c2 c3 cf hv3
    obtain ⟨c0, c1, c2, c3, cf⟩ := blk4 (blk_below HX1.out HB0.out)
    have cz3 := (blk_below HX1.out HB0.out).1
    go_wp2_with fail
    go_ret
    refine ⟨?_, b_call HW1.out HB0.out⟩
    have HF : Hid (lineL ⟨op, x, a, b⟩ = (y ++ [32]) ++ wideL x) := Lib.hid (by unfold lineL argsL; simp only [hκ]; rw [← HY.out]; simp)
    rw [HF.out]
    exact congrArg (fun x => Ending.returned (Value.string x)) (by rw [ba_append y [32], ba_append])
  · rw [hκ] at h120 h97 h98
    replace h120 : hasB op 120 = false := h120
    replace h97 : hasB op 97 = true := h97
    replace h98 : hasB op 98 = false := h98
    go_wp2_with fail
    refine (has_any _ _ _).mono ?_
    rintro e v0 ⟨rfl, hv0⟩
    replace HB0 : Hid (Below W1.heap.size W1 v0) := Lib.hid (b_call HB0.out hv0)
    clear c0 c1 c2 c3 cf hv0
    obtain ⟨c0, c1, c2, c3, cf⟩ := blk4 (blk_below HX1.out HB0.out)
    have cz0 := (blk_below HX1.out HB0.out).1
    go_wp2_with fail
    refine (has_any _ _ _).mono ?_
    rintro e v1 ⟨rfl, hv1⟩
    replace HB0 : Hid (Below W1.heap.size W1 v1) := Lib.hid (b_call HB0.out hv1)
    clear c0 c1 c2 c3 cf hv1
    obtain ⟨c0, c1, c2, c3, cf⟩ := blk4 (blk_below HX1.out HB0.out)
    have cz1 := (blk_below HX1.out HB0.out).1
    go_wp2_with fail
    refine (HNA.out _).mono ?_
    rintro e v2 ⟨rfl, hv2⟩
    unfold strV
    replace HB0 : Hid (Below W1.heap.size W1 v2) := Lib.hid (b_call HB0.out hv2)
    clear c0 c1 c2 c3 cf hv2
    obtain ⟨c0, c1, c2, c3, cf⟩ := blk4 (blk_below HX1.out HB0.out)
    have cz2 := (blk_below HX1.out HB0.out).1
    go_wp2_with fail
    refine (has_any _ _ _).mono ?_
    rintro e v3 ⟨rfl, hv3⟩
    replace HB0 : Hid (Below W1.heap.size W1 v3) := Lib.hid (b_call HB0.out hv3)
    clear c0 c1 c2 c3 cf hv3
    obtain ⟨c0, c1, c2, c3, cf⟩ := blk4 (blk_below HX1.out HB0.out)
    have cz3 := (blk_below HX1.out HB0.out).1
    go_wp2_with fail
    go_ret
    refine ⟨?_, b_call HW1.out HB0.out⟩
    have HF : Hid (lineL ⟨op, x, a, b⟩ = (y ++ [32]) ++ numI a) := Lib.hid (by unfold lineL argsL; simp only [hκ]; rw [← HY.out]; simp)
    rw [HF.out]
    exact congrArg (fun x => Ending.returned (Value.string x)) (by rw [ba_append y [32], ba_append])
  · rw [hκ] at h120 h97 h98
    replace h120 : hasB op 120 = false := h120
    replace h97 : hasB op 97 = true := h97
    replace h98 : hasB op 98 = true := h98
    go_wp2_with fail
    refine (has_any _ _ _).mono ?_
    rintro e v0 ⟨rfl, hv0⟩
    replace HB0 : Hid (Below W1.heap.size W1 v0) := Lib.hid (b_call HB0.out hv0)
    clear c0 c1 c2 c3 cf hv0
    obtain ⟨c0, c1, c2, c3, cf⟩ := blk4 (blk_below HX1.out HB0.out)
    have cz0 := (blk_below HX1.out HB0.out).1
    go_wp2_with fail
    refine (has_any _ _ _).mono ?_
    rintro e v1 ⟨rfl, hv1⟩
    replace HB0 : Hid (Below W1.heap.size W1 v1) := Lib.hid (b_call HB0.out hv1)
    clear c0 c1 c2 c3 cf hv1
    obtain ⟨c0, c1, c2, c3, cf⟩ := blk4 (blk_below HX1.out HB0.out)
    have cz1 := (blk_below HX1.out HB0.out).1
    go_wp2_with fail
    refine (HNA.out _).mono ?_
    rintro e v2 ⟨rfl, hv2⟩
    unfold strV
    replace HB0 : Hid (Below W1.heap.size W1 v2) := Lib.hid (b_call HB0.out hv2)
    clear c0 c1 c2 c3 cf hv2
    obtain ⟨c0, c1, c2, c3, cf⟩ := blk4 (blk_below HX1.out HB0.out)
    have cz2 := (blk_below HX1.out HB0.out).1
    go_wp2_with fail
    refine (has_any _ _ _).mono ?_
    rintro e v3 ⟨rfl, hv3⟩
    replace HB0 : Hid (Below W1.heap.size W1 v3) := Lib.hid (b_call HB0.out hv3)
    clear c0 c1 c2 c3 cf hv3
    obtain ⟨c0, c1, c2, c3, cf⟩ := blk4 (blk_below HX1.out HB0.out)
    have cz3 := (blk_below HX1.out HB0.out).1
    go_wp2_with fail
    refine (HNB.out _).mono ?_
    rintro e v4 ⟨rfl, hv4⟩
    unfold strV
    replace HB0 : Hid (Below W1.heap.size W1 v4) := Lib.hid (b_call HB0.out hv4)
    clear c0 c1 c2 c3 cf hv4
    obtain ⟨c0, c1, c2, c3, cf⟩ := blk4 (blk_below HX1.out HB0.out)
    have cz4 := (blk_below HX1.out HB0.out).1
    go_wp2_with fail
    go_ret
    refine ⟨?_, b_call HW1.out HB0.out⟩
    have HF : Hid (lineL ⟨op, x, a, b⟩ = (((y ++ [32]) ++ numI a) ++ [32]) ++ numI b) := Lib.hid (by unfold lineL argsL; simp only [hκ]; rw [← HY.out]; simp)
    rw [HF.out]
    exact congrArg (fun x => Ending.returned (Value.string x)) (by rw [ba_append y [32], ba_append, ba_append _ [32], ba_append])
end
section
open Go.RowKit
set_option linter.unusedVariables false
set_option linter.unusedSimpArgs false
theorem bcat {s : ByteArray} {a : List UInt8} (b : List UInt8) (h : s = ⟨a.toArray⟩) : s ++ ⟨b.toArray⟩ = ⟨(a ++ b).toArray⟩ := by rw [h, ba_append a b]
theorem mayP_parts {P : PrM} (h : mayP P = true) : (1 ≤ P.fs.length ∧ P.fs.length ≤ 16) ∧ (0 ≤ P.m ∧ P.m ≤ 4) ∧ ((∀ k ∈ P.gl, 0 ≤ k ∧ k ≤ 3) ∧ P.gl.length ≤ 8) ∧ ∀ f ∈ P.fs, mayF f = true := by
  unfold mayP at h
  simp only [Bool.and_eq_true, decide_eq_true_eq] at h
  obtain ⟨h1, h2, h3, h4, h5, h6⟩ := h
  obtain ⟨q1, q2⟩ := kinds_of h5
  exact ⟨⟨h1, h2⟩, ⟨h3, h4⟩, ⟨q1, by omega⟩, fun f hf => List.all_eq_true.1 h6 f hf⟩
theorem mayF_parts {f : FnM} (h : mayF f = true) : ((∀ k ∈ f.ps, 0 ≤ k ∧ k ≤ 3) ∧ f.ps.length ≤ 8) ∧ ((∀ k ∈ f.ls, 0 ≤ k ∧ k ≤ 3) ∧ f.ls.length ≤ 8) ∧ (0 ≤ f.r ∧ f.r ≤ 3) ∧ (1 ≤ f.code.length ∧ f.code.length ≤ 96) ∧ ∀ i ∈ f.code, mayB i.op i.x i.a i.b = true := by
  unfold mayF at h
  simp only [Bool.and_eq_true, decide_eq_true_eq] at h
  obtain ⟨h1, h2, h3, h4, h5, h6, h7⟩ := h
  obtain ⟨q1, q2⟩ := kinds_of h1
  obtain ⟨q3, q4⟩ := kinds_of h2
  exact ⟨⟨q1, by omega⟩, ⟨q3, by omega⟩, ⟨h3, h4⟩, ⟨h5, h6⟩, fun i hi => List.all_eq_true.1 h7 i hi⟩
set_option maxRecDepth 100000 in
set_option maxHeartbeats 8000000 in
theorem rprint_any (p : PrV) (P : PrM) (w : World) (h : ReadP w p P) (hm : mayP P = true) (hgd : GoodP P) : Calls Tryd.prog 9 #[aggP p] w fun e w' => e = .returned (strV (printL P)) ∧ Below w.heap.size w w' := by
  obtain ⟨⟨f1, f2⟩, ⟨m1, m2⟩, ⟨g1, g2⟩, hmf⟩ := mayP_parts hm
  obtain ⟨u, ⟨ga, gn, gc⟩, m, ⟨fa, fn, fc⟩⟩ := p
  obtain ⟨hu, hg, hm', M, hM, hA⟩ := h
  simp only at hu hm'
  have hg : ReadI w (.slice ga gn gc) P.gl := hg
  have hM : ReadR fnE w (.slice fa fn fc) M := hM
  obtain ⟨fa', fc', e1, mc1, mc2⟩ := readR_len hM
  injection e1 with e1 e2 e3
  subst e1 e2 e3
  have hfs := allF_len hA
  have HA := Lib.hid hA
  have HM := Lib.hid hM
  have HG := Lib.hid hg
  have HGD := Lib.hid hgd
  have HMF := Lib.hid hmf
  have HFS := Lib.hid hfs
  have hM16 : M.length ≤ 16 := by omega
  have hcc := cap_le mc2
  obtain ⟨t0, ht0⟩ : ∃ t0 : List UInt8, t0 = (if P.u = true then [117, 110, 99, 104, 101, 99, 107, 101, 100, 10] else []) := ⟨_, rfl⟩
  have ht0l : t0.length ≤ 10 := by rw [ht0]; split <;> simp
  obtain ⟨kg, hkg⟩ : ∃ kg, kg = kindsL P.gl := ⟨_, rfl⟩
  have hkgl : kg.length ≤ 9 := by have := kindsL_len P.gl; rw [hkg]; omega
  have HKG : Hid (∀ w', Below w.heap.size w w' → Calls Tryd.prog 23 #[.slice ga gn gc] w' fun e w'' => e = .returned (strV kg) ∧ w' = w'') := Lib.hid (fun w' hb => by rw [hkg]; exact rkinds_any _ P.gl w' (readI_below HG.out hb) g1 (by omega))
  obtain ⟨nm, hnm⟩ : ∃ nm, nm = numI P.m := ⟨_, rfl⟩
  have hnml : nm.length ≤ 5 := by rw [hnm]; exact numI_len (by omega)
  have HNM : Hid (∀ w, Calls Tryd.prog 24 #[.int .i64 m] w fun e w' => e = .returned (strV nm) ∧ Below w.heap.size w w') := Lib.hid (fun w => by
    have q := rnum_any P.m.toNat (by omega) w
    rw [show ((P.m.toNat : Nat) : Int) = m by omega] at q
    rw [hnm]; exact q)
  have HTOP : Hid (topL P = ((((t0 ++ [103, 108, 111, 98, 97, 108, 115, 32]) ++ kg) ++ [10, 109, 117, 116, 101, 120, 101, 115, 32]) ++ nm) ++ [10]) := Lib.hid (by unfold topL; rw [ht0, hkg, hnm])
  have HU : Hid (u = P.u ∧ t0 = (if P.u = true then [117, 110, 99, 104, 101, 99, 107, 101, 100, 10] else [])) := Lib.hid ⟨hu, ht0⟩
  have hM0 : (0 : Int) ≤ M.length := by omega
  clear hm hgd hM hA hg hm' hu hfs hmf g1 g2 m1 m2 f1 f2 hkg hnm ht0 mc2
  unfold aggP Sl.v
  go_enter Tryd.func9, Tryd.ntmps9
  go_upto_region 2 with fail
  refine wp_named ?_
  intro W1 hW1
  have HX1 : Hid (Blk W1 w.heap.size [.bool u, .slice ga gn gc, .int .i64 m, .slice fa M.length fc]) := Lib.hid (by rw [hW1]; exact blk_new _ _ _)
  have HW1 : Hid (Below w.heap.size w W1) := Lib.hid (by rw [hW1]; exact b_alloc (Below.refl _ _) _)
  clear hW1
  obtain ⟨c0, c1, c2, c3, cf⟩ := blk4 HX1.out
  have cz := HX1.out.1
  go_upto_if 9 with fail
  go_cut [3] (fun s wc => wc = W1 ∧ s = strV t0)
  case first =>
    cases u with
    | true =>
      have HT0 : Hid (t0 = [117, 110, 99, 104, 101, 99, 107, 101, 100, 10]) := Lib.hid (by rw [HU.out.2, if_pos HU.out.1.symm])
      go_wp2_with fail
      go_meet
      case rel => exact ⟨rfl, by rw [HT0.out]; rfl⟩
    | false =>
      have HT0 : Hid (t0 = []) := Lib.hid (by rw [HU.out.2, ← HU.out.1]; rfl)
      go_wp2_with fail
      go_meet
      case rel => exact ⟨rfl, by rw [HT0.out]; rfl⟩
  case rest =>
  obtain ⟨hwc, rfl⟩ := hcut
  replace hwc := hwc.symm
  subst hwc
  unfold strV
  have HC : Hid (∀ w', Below W1.heap.size W1 w' → w'.cell? ⟨w.heap.size, 1, none⟩ = some (.slice ga gn gc) ∧ w'.cell? ⟨w.heap.size, 2, none⟩ = some (.int .i64 m)) := Lib.hid (fun w' hb => ⟨(blk4 (blk_below HX1.out hb)).2.1, (blk4 (blk_below HX1.out hb)).2.2.1⟩)
  clear c0 c1 c2 c3 cf
  go_upto_region 4 with fail
  refine wp_region_held_drew (S := fun w' => w'.cell? ⟨w.heap.size, 1, none⟩ = some (.slice ga gn gc) ∧ w'.cell? ⟨w.heap.size, 2, none⟩ = some (.int .i64 m)) (by kernel_rfl) (HC.out _ (b_drew (Below.refl _ _))) (fun hHeld => ?_)
  have g1 : (9223372036854775807 < t0.length + 8) = False := by simp; omega
  have g2 : (9223372036854775807 < t0.length + 8 + kg.length) = False := by simp; omega
  have g3 : (9223372036854775807 < t0.length + 8 + kg.length + 9) = False := by simp; omega
  have g4 : (9223372036854775807 < t0.length + 8 + kg.length + 9 + nm.length) = False := by simp; omega
  have g5 : (9223372036854775807 < t0.length + 8 + kg.length + 9 + nm.length + 1) = False := by simp; omega
  refine atI 0 ?_
  iterate 4 (refine takeN (v := ?_) rfl (by rfl) ?_ hHeld ?_; rotate_left; (focus (intro w hSw; (try dsimp only at hSw); go_simp; try (with_reducible rfl))); (try simp only [Act.put, Nat.reduceAdd, List.getElem_toArray, List.getElem_cons_succ, List.getElem_cons_zero, List.setIfInBounds_toArray, List.set_cons_zero, List.set_cons_succ]))
  refine atIo ?_
  refine atI 7 ?_
  iterate 2 (refine takeN (v := ?_) rfl (by rfl) ?_ hHeld ?_; rotate_left; (focus (intro w hSw; (try dsimp only at hSw); go_simp; try (with_reducible rfl))); (try simp only [Act.put, Nat.reduceAdd, List.getElem_toArray, List.getElem_cons_succ, List.getElem_cons_zero, List.setIfInBounds_toArray, List.set_cons_zero, List.set_cons_succ]))
  refine atIo ?_
  refine wpAnyH_ready (rs := [4]) (by kernel_rfl) (by simp) (AllReadyH.cons rfl (fun K hK => ?_) AllReadyH.nil)
  go_simp
  refine (HKG.out _ (b_drew HW1.out)).mono ?_
  rintro e q ⟨rfl, rfl⟩
  unfold strV
  refine hK.out _ _ (HC.out _ (b_drew (Below.refl _ _))) (fun hHeld => ?_)
  clear hK K
  (try simp only [Act.put, List.getElem_toArray, List.getElem_cons_succ, List.getElem_cons_zero, List.setIfInBounds_toArray, List.set_cons_zero, List.set_cons_succ])
  refine atI 5 ?_
  iterate 2 (refine takeN (v := ?_) rfl (by rfl) ?_ hHeld ?_; rotate_left; (focus (intro w hSw; (try dsimp only at hSw); go_simp; try (with_reducible rfl))); (try simp only [Act.put, Nat.reduceAdd, List.getElem_toArray, List.getElem_cons_succ, List.getElem_cons_zero, List.setIfInBounds_toArray, List.set_cons_zero, List.set_cons_succ]))
  refine atIo ?_
  refine wpAnyH_ready (rs := [9]) (by kernel_rfl) (by simp) (AllReadyH.cons rfl (fun K hK => ?_) AllReadyH.nil)
  go_simp
  refine (HNM.out _).mono ?_
  rintro e q ⟨rfl, hq⟩
  unfold strV
  have HQ : Hid (Below W1.heap.size W1 q) := Lib.hid (b_call (b_drew (Below.refl _ _)) hq)
  clear hq
  refine hK.out _ _ (HC.out _ HQ.out) (fun hHeld => ?_)
  clear hK K
  (try simp only [Act.put, List.getElem_toArray, List.getElem_cons_succ, List.getElem_cons_zero, List.setIfInBounds_toArray, List.set_cons_zero, List.set_cons_succ])
  refine atI 10 ?_
  iterate 3 (refine takeN (v := ?_) rfl (by rfl) ?_ hHeld ?_; rotate_left; (focus (intro w hSw; (try dsimp only at hSw); go_simp; try (with_reducible rfl))); (try simp only [Act.put, Nat.reduceAdd, List.getElem_toArray, List.getElem_cons_succ, List.getElem_cons_zero, List.setIfInBounds_toArray, List.set_cons_zero, List.set_cons_succ]))
  refine atIo ?_
  refine wpAnyH_done (by kernel_rfl) ?_ _
  clear hHeld g1 g2 g3 g4 g5
  obtain ⟨c0, c1, c2, c3, cf⟩ := blk4 (blk_below HX1.out HQ.out)
  have cz2 := (blk_below HX1.out HQ.out).1
  go_wp2_with fail
  go_loopw [3, 25] (fun s i wr => ∃ k : Nat, k ≤ M.length ∧ i = .int .i64 k ∧ ∃ t : List UInt8, s = strV t ∧ t.length ≤ 100 + 4000 * k ∧ Hid (t = topL P ++ (P.fs.take k).flatMap funcL) ∧ Hid (Below W1.heap.size W1 wr)) (fun _ i _ => M.length - (intOf i).toNat)
  case atStart =>
    exact ⟨0, Nat.zero_le _, rfl, topL P, by rw [HTOP.out]; exact congrArg Value.string (bcat [10] (bcat nm (bcat [10, 109, 117, 116, 101, 120, 101, 115, 32] (bcat kg (ba_append t0 [103, 108, 111, 98, 97, 108, 115, 32]))))), by rw [HTOP.out]; simp; omega, Lib.hid (by simp), HQ⟩
  case round =>
    clear c0 c1 c2 c3 cf cz2 cz HQ q
    obtain ⟨WR, hWR⟩ : ∃ x, x = wr := ⟨_, rfl⟩
    subst hWR
    obtain ⟨k, hk, rfl, t, rfl, htl, HT, HBR⟩ := hrel
    have hk0 : (0 : Int) ≤ k := by omega
    have htl2 : t.length ≤ 70000 := by omega
    unfold strV
    by_cases hlt : k < M.length
    · have hk1 : (k : Int) < M.length := by omega
      have hkc : (k : Int) < fc := by omega
      have hlt' : k < P.fs.length := by have := HFS.out; omega
      obtain ⟨bl, off, cp, e1, r1, r2, hbl, r4⟩ := readR_pos (readR_below HM.out (b_call HW1.out HBR.out)) (by omega)
      injection e1 with e1 e1b e3
      subst e1
      have d0 : WR.cell? ⟨bl, off + k * 4, none⟩ = some (.slice M[k].p.a M[k].p.n M[k].p.c) := r4 k hlt 0 (by decide)
      have d1 : WR.cell? ⟨bl, off + k * 4 + 1, none⟩ = some (.slice M[k].l.a M[k].l.n M[k].l.c) := r4 k hlt 1 (by decide)
      have d2 : WR.cell? ⟨bl, off + k * 4 + 2, none⟩ = some (.int .i64 M[k].r) := r4 k hlt 2 (by decide)
      have d3 : WR.cell? ⟨bl, off + k * 4 + 3, none⟩ = some (.slice M[k].c.a M[k].c.n M[k].c.c) := r4 k hlt 3 (by decide)
      have hD := allF_at HA.out k hlt hlt'
      have HMK := Lib.hid (HMF.out P.fs[k] (List.getElem_mem hlt'))
      have HGK := Lib.hid (HGD.out P.fs[k] (List.getElem_mem hlt'))
      have HTK : Hid (∀ x, topL P ++ (P.fs.take (k + 1)).flatMap funcL = t ++ x ↔ funcL P.fs[k] = x) := Lib.hid (fun x => by
        rw [List.take_succ_eq_append_getElem hlt', List.flatMap_append, ← List.append_assoc, ← HT.out]
        simp)
      generalize M[k] = v at *
      generalize P.fs[k] = f at *
      obtain ⟨⟨pa, pn, pc⟩, ⟨xa, xn, xc⟩, r, ⟨ca, cn, cc⟩⟩ := v
      simp only at d0 d1 d2 d3
      obtain ⟨⟨ps1, ps2⟩, ⟨ls1, ls2⟩, ⟨rr1, rr2⟩, ⟨cl1, cl2⟩, hmc⟩ := mayF_parts HMK.out
      have hDp : ReadI w (.slice pa pn pc) f.ps := hD.p
      have hDl : ReadI w (.slice xa xn xc) f.ls := hD.l
      have hDr : r = f.r := hD.r
      have hDc : ReadR inE w (.slice ca cn cc) f.code := hD.c
      obtain ⟨ca', cc', e1, cm1, cm2⟩ := readR_len hDc
      injection e1 with e1 e2 e3
      subst e1 e2 e3
      have HDC := Lib.hid hDc
      have HDP := Lib.hid hDp
      have HDL := Lib.hid hDl
      have HMC := Lib.hid hmc
      obtain ⟨kp, hkp⟩ : ∃ kp, kp = kindsL f.ps := ⟨_, rfl⟩
      obtain ⟨kl, hkl⟩ : ∃ kl, kl = kindsL f.ls := ⟨_, rfl⟩
      obtain ⟨kr, hkr⟩ : ∃ kr, kr = kindsL [r] := ⟨_, rfl⟩
      have hkpl : kp.length ≤ 9 := by have := kindsL_len f.ps; rw [hkp]; omega
      have hkll : kl.length ≤ 9 := by have := kindsL_len f.ls; rw [hkl]; omega
      have hkrl : kr.length ≤ 2 := by have := kindsL_len [r]; rw [hkr]; simpa using this
      have HK1 : Hid (∀ w', Below w.heap.size w w' → Calls Tryd.prog 23 #[.slice pa pn pc] w' fun e w'' => e = .returned (strV kp) ∧ w' = w'') := Lib.hid (fun w' hb => by rw [hkp]; exact rkinds_any _ f.ps w' (readI_below HDP.out hb) ps1 (by omega))
      have HK2 : Hid (∀ w', Below w.heap.size w w' → Calls Tryd.prog 23 #[.slice xa xn xc] w' fun e w'' => e = .returned (strV kl) ∧ w' = w'') := Lib.hid (fun w' hb => by rw [hkl]; exact rkinds_any _ f.ls w' (readI_below HDL.out hb) ls1 (by omega))
      have HK3 : Hid (∀ (w' : World) {u : Value}, ReadI w' u [r] → Calls Tryd.prog 23 #[u] w' fun e w'' => e = .returned (strV kr) ∧ w' = w'') := Lib.hid (fun w' u hu => by rw [hkr]; exact rkinds_any _ [r] w' hu (fun z hz => by rw [List.mem_singleton.1 hz, hDr]; exact ⟨rr1, rr2⟩) (by simp))
      have HHD : Hid (headL f = (((((([102, 117, 110, 99, 32] ++ kp) ++ [32]) ++ kl) ++ [32]) ++ kr) ++ [10])) := Lib.hid (by unfold headL; rw [hkp, hkl, hkr, hDr])
      have hhl : (headL f).length ≤ 40 := by rw [HHD.out]; simp; omega
      have HEQ : Hid ((⟨t.toArray⟩ : ByteArray) ++ ⟨#[102, 117, 110, 99, 32]⟩ ++ ⟨kp.toArray⟩ ++ ⟨#[32]⟩ ++ ⟨kl.toArray⟩ ++ ⟨#[32]⟩ ++ ⟨kr.toArray⟩ ++ ⟨#[10]⟩ = ⟨(t ++ headL f).toArray⟩) := Lib.hid (by
        refine (bcat [10] (bcat kr (bcat [32] (bcat kl (bcat [32] (bcat kp (ba_append t [102, 117, 110, 99, 32]))))))).trans ?_
        rw [HHD.out]
        simp only [List.append_assoc])
      have hcl : f.code.length ≤ 96 := cl2
      have hc0 : (0 : Int) ≤ f.code.length := by omega
      have hcc2 := cap_le cm2
      clear r4 r1 r2 e1b e3 hD hDp hDl hDr hDc hmc hkp hkl hkr ps1 ps2 ls1 ls2 rr1 rr2 cl1 cl2 cm2
      go_upto_region 8 with fail
      refine wp_named ?_
      intro W2 hW2
      have HX2 : Hid (Blk W2 WR.heap.size [.slice pa pn pc, .slice xa xn xc, .int .i64 r, .slice ca f.code.length cc]) := Lib.hid (by rw [hW2]; exact blk_new _ _ _)
      have HBR2 : Hid (Below W1.heap.size W1 W2) := Lib.hid (by rw [hW2]; exact b_alloc HBR.out _)
      have HBW2 : Hid (Below w.heap.size w W2) := Lib.hid (b_call HW1.out HBR2.out)
      have HC2 : Hid (∀ w', Below W2.heap.size W2 w' → w'.cell? ⟨WR.heap.size, 0, none⟩ = some (.slice pa pn pc) ∧ w'.cell? ⟨WR.heap.size, 1, none⟩ = some (.slice xa xn xc) ∧ w'.cell? ⟨WR.heap.size, 2, none⟩ = some (.int .i64 r)) := Lib.hid (fun w' hb => by
        obtain ⟨z0, z1, z2, _⟩ := blk4 (blk_below HX2.out hb)
        exact ⟨z0, z1, z2⟩)
      clear hW2 d0 d1 d2 d3 hbl
      go_cut [3, 5, 25] from 25 to 60 (fun s x i wz => i = .int .i64 k ∧ x = .pointer (some ⟨WR.heap.size, 0, none⟩) ∧ s = strV (t ++ headL f) ∧ Hid (Below W2.heap.size W2 wz))
      case first =>
        refine wp_region_held_drew (S := fun w' => w'.cell? ⟨WR.heap.size, 0, none⟩ = some (.slice pa pn pc) ∧ w'.cell? ⟨WR.heap.size, 1, none⟩ = some (.slice xa xn xc) ∧ w'.cell? ⟨WR.heap.size, 2, none⟩ = some (.int .i64 r)) (by kernel_rfl) (HC2.out _ (b_drew (Below.refl _ _))) (fun hHeld => ?_)
        have g1 : (9223372036854775807 < t.length + 5) = False := by simp; omega
        have g2 : (9223372036854775807 < t.length + 5 + kp.length) = False := by simp; omega
        have g3 : (9223372036854775807 < t.length + 5 + kp.length + 1) = False := by simp; omega
        have g4 : (9223372036854775807 < t.length + 5 + kp.length + 1 + kl.length) = False := by simp; omega
        have g5 : (9223372036854775807 < t.length + 5 + kp.length + 1 + kl.length + 1) = False := by simp; omega
        have g6 : (9223372036854775807 < t.length + 5 + kp.length + 1 + kl.length + 1 + kr.length) = False := by simp; omega
        have g7 : (9223372036854775807 < t.length + 5 + kp.length + 1 + kl.length + 1 + kr.length + 1) = False := by simp; omega
        refine atI 0 ?_
        iterate 4 (refine takeN (v := ?_) rfl (by rfl) ?_ hHeld ?_; rotate_left; (focus (intro w hSw; (try dsimp only at hSw); go_simp; try (with_reducible rfl))); (try simp only [Act.put, Nat.reduceAdd, List.getElem_toArray, List.getElem_cons_succ, List.getElem_cons_zero, List.setIfInBounds_toArray, List.set_cons_zero, List.set_cons_succ]))
        refine atIo ?_
        refine atI 7 ?_
        iterate 2 (refine takeN (v := ?_) rfl (by rfl) ?_ hHeld ?_; rotate_left; (focus (intro w hSw; (try dsimp only at hSw); go_simp; try (with_reducible rfl))); (try simp only [Act.put, Nat.reduceAdd, List.getElem_toArray, List.getElem_cons_succ, List.getElem_cons_zero, List.setIfInBounds_toArray, List.set_cons_zero, List.set_cons_succ]))
        refine atIo ?_
        refine atI 12 ?_
        iterate 2 (refine takeN (v := ?_) rfl (by rfl) ?_ hHeld ?_; rotate_left; (focus (intro w hSw; (try dsimp only at hSw); go_simp; try (with_reducible rfl))); (try simp only [Act.put, Nat.reduceAdd, List.getElem_toArray, List.getElem_cons_succ, List.getElem_cons_zero, List.setIfInBounds_toArray, List.set_cons_zero, List.set_cons_succ]))
        refine atIo ?_
        refine wpAnyH_ready (rs := [4, 14]) (by kernel_rfl) (by simp) (AllReadyH.cons rfl (fun K hK => ?_) (AllReadyH.cons rfl (fun K hK => ?_) (AllReadyH.nil)))
        · skip
          go_simp
          refine (HK1.out _ (by first | exact b_drew HBW2.out | exact b_alloc (b_drew HBW2.out) _ | exact b_drew (b_alloc HBW2.out _))).mono ?_
          rintro e q1 ⟨rfl, rfl⟩
          unfold strV
          refine hK.out _ _ (HC2.out _ (by first | exact b_drew (Below.refl _ _) | exact b_alloc (b_drew (Below.refl _ _)) _ | exact b_drew (b_alloc (Below.refl _ _) _))) (fun hHeld => ?_)
          clear hK K
          (try simp only [Act.put, List.getElem_toArray, List.getElem_cons_succ, List.getElem_cons_zero, List.setIfInBounds_toArray, List.set_cons_zero, List.set_cons_succ])
          refine atI 5 ?_
          iterate 2 (refine takeN (v := ?_) rfl (by rfl) ?_ hHeld ?_; rotate_left; (focus (intro w hSw; (try dsimp only at hSw); go_simp; try (with_reducible rfl))); (try simp only [Act.put, Nat.reduceAdd, List.getElem_toArray, List.getElem_cons_succ, List.getElem_cons_zero, List.setIfInBounds_toArray, List.set_cons_zero, List.set_cons_succ]))
          refine atIo ?_
          refine wpAnyH_ready (rs := [9, 14]) (by kernel_rfl) (by simp) (AllReadyH.cons rfl (fun K hK => ?_) (AllReadyH.cons rfl (fun K hK => ?_) (AllReadyH.nil)))
          · skip
            go_simp
            refine (HK2.out _ (by first | exact b_drew HBW2.out | exact b_alloc (b_drew HBW2.out) _ | exact b_drew (b_alloc HBW2.out _))).mono ?_
            rintro e q2 ⟨rfl, rfl⟩
            unfold strV
            refine hK.out _ _ (HC2.out _ (by first | exact b_drew (Below.refl _ _) | exact b_alloc (b_drew (Below.refl _ _)) _ | exact b_drew (b_alloc (Below.refl _ _) _))) (fun hHeld => ?_)
            clear hK K
            (try simp only [Act.put, List.getElem_toArray, List.getElem_cons_succ, List.getElem_cons_zero, List.setIfInBounds_toArray, List.set_cons_zero, List.set_cons_succ])
            refine atI 10 ?_
            iterate 2 (refine takeN (v := ?_) rfl (by rfl) ?_ hHeld ?_; rotate_left; (focus (intro w hSw; (try dsimp only at hSw); go_simp; try (with_reducible rfl))); (try simp only [Act.put, Nat.reduceAdd, List.getElem_toArray, List.getElem_cons_succ, List.getElem_cons_zero, List.setIfInBounds_toArray, List.set_cons_zero, List.set_cons_succ]))
            refine atIo ?_
            refine wpAnyH_ready (rs := [14]) (by kernel_rfl) (by simp) (AllReadyH.cons rfl (fun K hK => ?_) AllReadyH.nil)
            go_simp
            refine hK.out _ _ (HC2.out _ (by first | exact b_drew (Below.refl _ _) | exact b_alloc (b_drew (Below.refl _ _)) _ | exact b_drew (b_alloc (Below.refl _ _) _))) (fun hHeld => ?_)
            clear hK K
            (try simp only [Act.put, List.getElem_toArray, List.getElem_cons_succ, List.getElem_cons_zero, List.setIfInBounds_toArray, List.set_cons_zero, List.set_cons_succ])
            refine wpAnyH_ready (rs := [15]) (by kernel_rfl) (by simp) (AllReadyH.cons rfl (fun K hK => ?_) AllReadyH.nil)
            go_simp
            refine (HK3.out _ (by first | exact readI_sole _ _ _ | exact readI_sole2 rfl)).mono ?_
            rintro e q3 ⟨rfl, rfl⟩
            unfold strV
            refine hK.out _ _ (HC2.out _ (by first | exact b_drew (Below.refl _ _) | exact b_alloc (b_drew (Below.refl _ _)) _ | exact b_drew (b_alloc (Below.refl _ _) _))) (fun hHeld => ?_)
            clear hK K
            (try simp only [Act.put, List.getElem_toArray, List.getElem_cons_succ, List.getElem_cons_zero, List.setIfInBounds_toArray, List.set_cons_zero, List.set_cons_succ])
            refine atI 16 ?_
            iterate 3 (refine takeN (v := ?_) rfl (by rfl) ?_ hHeld ?_; rotate_left; (focus (intro w hSw; (try dsimp only at hSw); go_simp; try (with_reducible rfl))); (try simp only [Act.put, Nat.reduceAdd, List.getElem_toArray, List.getElem_cons_succ, List.getElem_cons_zero, List.setIfInBounds_toArray, List.set_cons_zero, List.set_cons_succ]))
            refine atIo ?_
            refine wpAnyH_done (by kernel_rfl) ?_ _
            go_wp2_with fail
            go_meet
            case rel => exact ⟨rfl, rfl, congrArg Value.string HEQ.out, Lib.hid (by first | exact b_drew (Below.refl _ _) | exact b_alloc (b_drew (Below.refl _ _)) _ | exact b_drew (b_alloc (Below.refl _ _) _))⟩
          · skip
            go_simp
            refine hK.out _ _ (HC2.out _ (by first | exact b_drew (Below.refl _ _) | exact b_alloc (b_drew (Below.refl _ _)) _ | exact b_drew (b_alloc (Below.refl _ _) _))) (fun hHeld => ?_)
            clear hK K
            (try simp only [Act.put, List.getElem_toArray, List.getElem_cons_succ, List.getElem_cons_zero, List.setIfInBounds_toArray, List.set_cons_zero, List.set_cons_succ])
            refine wpAnyH_ready (rs := [9]) (by kernel_rfl) (by simp) (AllReadyH.cons rfl (fun K hK => ?_) AllReadyH.nil)
            go_simp
            refine (HK2.out _ (by first | exact b_drew HBW2.out | exact b_alloc (b_drew HBW2.out) _ | exact b_drew (b_alloc HBW2.out _))).mono ?_
            rintro e q2 ⟨rfl, rfl⟩
            unfold strV
            refine hK.out _ _ (HC2.out _ (by first | exact b_drew (Below.refl _ _) | exact b_alloc (b_drew (Below.refl _ _)) _ | exact b_drew (b_alloc (Below.refl _ _) _))) (fun hHeld => ?_)
            clear hK K
            (try simp only [Act.put, List.getElem_toArray, List.getElem_cons_succ, List.getElem_cons_zero, List.setIfInBounds_toArray, List.set_cons_zero, List.set_cons_succ])
            refine atI 10 ?_
            iterate 2 (refine takeN (v := ?_) rfl (by rfl) ?_ hHeld ?_; rotate_left; (focus (intro w hSw; (try dsimp only at hSw); go_simp; try (with_reducible rfl))); (try simp only [Act.put, Nat.reduceAdd, List.getElem_toArray, List.getElem_cons_succ, List.getElem_cons_zero, List.setIfInBounds_toArray, List.set_cons_zero, List.set_cons_succ]))
            refine atIo ?_
            refine wpAnyH_ready (rs := [15]) (by kernel_rfl) (by simp) (AllReadyH.cons rfl (fun K hK => ?_) AllReadyH.nil)
            go_simp
            refine (HK3.out _ (by first | exact readI_sole _ _ _ | exact readI_sole2 rfl)).mono ?_
            rintro e q3 ⟨rfl, rfl⟩
            unfold strV
            refine hK.out _ _ (HC2.out _ (by first | exact b_drew (Below.refl _ _) | exact b_alloc (b_drew (Below.refl _ _)) _ | exact b_drew (b_alloc (Below.refl _ _) _))) (fun hHeld => ?_)
            clear hK K
            (try simp only [Act.put, List.getElem_toArray, List.getElem_cons_succ, List.getElem_cons_zero, List.setIfInBounds_toArray, List.set_cons_zero, List.set_cons_succ])
            refine atI 16 ?_
            iterate 3 (refine takeN (v := ?_) rfl (by rfl) ?_ hHeld ?_; rotate_left; (focus (intro w hSw; (try dsimp only at hSw); go_simp; try (with_reducible rfl))); (try simp only [Act.put, Nat.reduceAdd, List.getElem_toArray, List.getElem_cons_succ, List.getElem_cons_zero, List.setIfInBounds_toArray, List.set_cons_zero, List.set_cons_succ]))
            refine atIo ?_
            refine wpAnyH_done (by kernel_rfl) ?_ _
            go_wp2_with fail
            go_meet
            case rel => exact ⟨rfl, rfl, congrArg Value.string HEQ.out, Lib.hid (by first | exact b_drew (Below.refl _ _) | exact b_alloc (b_drew (Below.refl _ _)) _ | exact b_drew (b_alloc (Below.refl _ _) _))⟩
        · skip
          go_simp
          refine hK.out _ _ (HC2.out _ (by first | exact b_drew (Below.refl _ _) | exact b_alloc (b_drew (Below.refl _ _)) _ | exact b_drew (b_alloc (Below.refl _ _) _))) (fun hHeld => ?_)
          clear hK K
          (try simp only [Act.put, List.getElem_toArray, List.getElem_cons_succ, List.getElem_cons_zero, List.setIfInBounds_toArray, List.set_cons_zero, List.set_cons_succ])
          refine wpAnyH_ready (rs := [4]) (by kernel_rfl) (by simp) (AllReadyH.cons rfl (fun K hK => ?_) AllReadyH.nil)
          go_simp
          refine (HK1.out _ (by first | exact b_drew HBW2.out | exact b_alloc (b_drew HBW2.out) _ | exact b_drew (b_alloc HBW2.out _))).mono ?_
          rintro e q1 ⟨rfl, rfl⟩
          unfold strV
          refine hK.out _ _ (HC2.out _ (by first | exact b_drew (Below.refl _ _) | exact b_alloc (b_drew (Below.refl _ _)) _ | exact b_drew (b_alloc (Below.refl _ _) _))) (fun hHeld => ?_)
          clear hK K
          (try simp only [Act.put, List.getElem_toArray, List.getElem_cons_succ, List.getElem_cons_zero, List.setIfInBounds_toArray, List.set_cons_zero, List.set_cons_succ])
          refine atI 5 ?_
          iterate 2 (refine takeN (v := ?_) rfl (by rfl) ?_ hHeld ?_; rotate_left; (focus (intro w hSw; (try dsimp only at hSw); go_simp; try (with_reducible rfl))); (try simp only [Act.put, Nat.reduceAdd, List.getElem_toArray, List.getElem_cons_succ, List.getElem_cons_zero, List.setIfInBounds_toArray, List.set_cons_zero, List.set_cons_succ]))
          refine atIo ?_
          refine wpAnyH_ready (rs := [9]) (by kernel_rfl) (by simp) (AllReadyH.cons rfl (fun K hK => ?_) AllReadyH.nil)
          go_simp
          refine (HK2.out _ (by first | exact b_drew HBW2.out | exact b_alloc (b_drew HBW2.out) _ | exact b_drew (b_alloc HBW2.out _))).mono ?_
          rintro e q2 ⟨rfl, rfl⟩
          unfold strV
          refine hK.out _ _ (HC2.out _ (by first | exact b_drew (Below.refl _ _) | exact b_alloc (b_drew (Below.refl _ _)) _ | exact b_drew (b_alloc (Below.refl _ _) _))) (fun hHeld => ?_)
          clear hK K
          (try simp only [Act.put, List.getElem_toArray, List.getElem_cons_succ, List.getElem_cons_zero, List.setIfInBounds_toArray, List.set_cons_zero, List.set_cons_succ])
          refine atI 10 ?_
          iterate 2 (refine takeN (v := ?_) rfl (by rfl) ?_ hHeld ?_; rotate_left; (focus (intro w hSw; (try dsimp only at hSw); go_simp; try (with_reducible rfl))); (try simp only [Act.put, Nat.reduceAdd, List.getElem_toArray, List.getElem_cons_succ, List.getElem_cons_zero, List.setIfInBounds_toArray, List.set_cons_zero, List.set_cons_succ]))
          refine atIo ?_
          refine wpAnyH_ready (rs := [15]) (by kernel_rfl) (by simp) (AllReadyH.cons rfl (fun K hK => ?_) AllReadyH.nil)
          go_simp
          refine (HK3.out _ (by first | exact readI_sole _ _ _ | exact readI_sole2 rfl)).mono ?_
          rintro e q3 ⟨rfl, rfl⟩
          unfold strV
          refine hK.out _ _ (HC2.out _ (by first | exact b_drew (Below.refl _ _) | exact b_alloc (b_drew (Below.refl _ _)) _ | exact b_drew (b_alloc (Below.refl _ _) _))) (fun hHeld => ?_)
          clear hK K
          (try simp only [Act.put, List.getElem_toArray, List.getElem_cons_succ, List.getElem_cons_zero, List.setIfInBounds_toArray, List.set_cons_zero, List.set_cons_succ])
          refine atI 16 ?_
          iterate 3 (refine takeN (v := ?_) rfl (by rfl) ?_ hHeld ?_; rotate_left; (focus (intro w hSw; (try dsimp only at hSw); go_simp; try (with_reducible rfl))); (try simp only [Act.put, Nat.reduceAdd, List.getElem_toArray, List.getElem_cons_succ, List.getElem_cons_zero, List.setIfInBounds_toArray, List.set_cons_zero, List.set_cons_succ]))
          refine atIo ?_
          refine wpAnyH_done (by kernel_rfl) ?_ _
          go_wp2_with fail
          go_meet
          case rel => exact ⟨rfl, rfl, congrArg Value.string HEQ.out, Lib.hid (by first | exact b_drew (Below.refl _ _) | exact b_alloc (b_drew (Below.refl _ _)) _ | exact b_drew (b_alloc (Below.refl _ _) _))⟩
      case rest =>
      obtain ⟨rfl, rfl, rfl, HB3⟩ := hcut
      unfold strV
      have HBR3 : Hid (Below W1.heap.size W1 wc) := Lib.hid (b_call HBR2.out HB3.out)
      obtain ⟨t1, ht1⟩ : ∃ t1, t1 = t ++ headL f := ⟨_, rfl⟩
      have ht1l : t1.length ≤ 140 + 4000 * k := by rw [ht1, List.length_append]; omega
      rw [← ht1]
      have HT1 := Lib.hid ht1
      clear ht1
      obtain ⟨x0, x1, x2, x3, xf⟩ := blk4 (blk_below HX2.out HB3.out)
      have xz := (blk_below HX2.out HB3.out).1
      go_wp2_with fail
      go_loopw [3, 50] (fun s j wq => ∃ n : Nat, n ≤ f.code.length ∧ j = .int .i64 n ∧ ∃ z : List UInt8, s = strV z ∧ z.length ≤ 140 + 4000 * k + 30 * n ∧ Hid (z = t1 ++ codeL (f.code.take n)) ∧ Hid (Below wc.heap.size wc wq)) (fun _ j _ => f.code.length - (intOf j).toNat)
      case atStart => exact ⟨0, Nat.zero_le _, rfl, t1, rfl, by omega, Lib.hid (by simp [codeL]), Lib.hid (Below.refl _ _)⟩
      case round =>
        clear x0 x1 x2 x3 xf xz
        obtain ⟨n, hn, rfl, z, rfl, hzl, HZ, HBQ⟩ := hrel
        have hn0 : (0 : Int) ≤ n := by omega
        have hzl2 : z.length ≤ 80000 := by omega
        unfold strV
        by_cases hnt : n < f.code.length
        · have hn1 : (n : Int) < f.code.length := by omega
          have hnc : (n : Int) < cc := by omega
          obtain ⟨bl, off, cp, e1, r1, r2, hbl, r4⟩ := readR_pos (readR_below HDC.out (b_call HW1.out (b_call HBR3.out HBQ.out))) (by omega)
          injection e1 with e1 e1b e3
          subst e1
          have d0 : wr.cell? ⟨bl, off + n * 4, none⟩ = some (.int .i64 f.code[n].op) := r4 n hnt 0 (by decide)
          have d1 : wr.cell? ⟨bl, off + n * 4 + 1, none⟩ = some (.int .u64 f.code[n].x) := r4 n hnt 1 (by decide)
          have d2 : wr.cell? ⟨bl, off + n * 4 + 2, none⟩ = some (.int .i64 f.code[n].a) := r4 n hnt 2 (by decide)
          have d3 : wr.cell? ⟨bl, off + n * 4 + 3, none⟩ = some (.int .i64 f.code[n].b) := r4 n hnt 3 (by decide)
          have HMI := Lib.hid (HMC.out f.code[n] (List.getElem_mem hnt))
          have HGI := Lib.hid (HGK.out f.code[n] (List.getElem_mem hnt))
          have HZK : Hid (t1 ++ codeL (f.code.take (n + 1)) = z ++ (lineL f.code[n] ++ [10])) := Lib.hid (by
            rw [List.take_succ_eq_append_getElem hnt, HZ.out]
            unfold codeL
            rw [List.flatMap_append, List.append_assoc]
            simp)
          generalize f.code[n] = ii at *
          obtain ⟨op, x, a, b⟩ := ii
          simp only at d0 d1 d2 d3 HMI
          have hgx := HGI.out
          obtain ⟨hgx0, hgx1⟩ := hgx
          simp only at hgx0 hgx1
          obtain ⟨_, ⟨_, ha2⟩, _, hb2⟩ := may_bd HMI.out
          have hli := line_len (i := ⟨op, x, a, b⟩) ha2 hb2
          have HLN : Hid (∀ w, Calls Tryd.prog 16 #[.agg #[.int .i64 op, .int .u64 x, .int .i64 a, .int .i64 b]] w fun e w' => e = .returned (strV (lineL ⟨op, x, a, b⟩)) ∧ Below w.heap.size w w') := Lib.hid (fun w => rline_any op x a b HMI.out hgx0 hgx1 w)
          generalize lineL ⟨op, x, a, b⟩ = li at *
          clear r4 r1 r2 e1b e3 hgx0 hgx1 ha2 hb2
          go_upto_region 12 with fail
          refine wp_named ?_
          intro W4 hW4
          have HX4 : Hid (Blk W4 wr.heap.size [.int .i64 op, .int .u64 x, .int .i64 a, .int .i64 b]) := Lib.hid (by rw [hW4]; exact blk_new _ _ _)
          have HB4 : Hid (Below wc.heap.size wc W4) := Lib.hid (by rw [hW4]; exact b_alloc HBQ.out _)
          clear hW4 d0 d1 d2 d3 hbl
          obtain ⟨x0, x1, x2, x3, xf⟩ := blk4 HX4.out
          have xz := HX4.out.1
          go_wp2_with fail
          refine (HLN.out _).mono ?_
          rintro e w5 ⟨rfl, hb5⟩
          have HB5 := Lib.hid (b_call HB4.out hb5)
          clear hb5
          unfold strV
          go_wp2_with fail
          go_roundw
          case rel => exact ⟨n + 1, by omega, by first | rfl | go_num, z ++ li ++ [10], congrArg Value.string (bcat [10] (ba_append z li)), by simp; omega, Lib.hid (by rw [HZK.out, List.append_assoc]), HB5⟩
          case measure => simp [intOf] <;> omega
        · have HZE : Hid (z = t ++ funcL f) := Lib.hid (by
            rw [HZ.out, List.take_of_length_le (by omega), HT1.out, List.append_assoc]; rfl)
          go_wp2_with fail
          go_roundw
          case rel => exact ⟨k + 1, by omega, by first | rfl | go_num, z, rfl, by omega, Lib.hid (by rw [HZE.out]; exact ((HTK.out (funcL f)).2 rfl).symm), Lib.hid (b_call HBR3.out HBQ.out)⟩
          case measure => simp [intOf] <;> omega
    · have HE : Hid (t = printL P) := Lib.hid (by
        rw [HT.out, List.take_of_length_le (by have := HFS.out; omega)]; rfl)
      go_wp2_with fail
      go_ret
      exact ⟨by rw [← HE.out]; rfl, b_call HW1.out HBR.out⟩
end
end Go.Proofs.YtedmjlhgpdeafaaDoor
