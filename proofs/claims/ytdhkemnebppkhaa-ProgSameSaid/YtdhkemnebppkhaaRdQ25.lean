/- Layer 25: a reader's program, walked. Conditions: the reader stands, its bytes are bytes, and not too many. -/
import Derived.Test.YtdhkemnebppkhaaRdP25
namespace Go.Proofs.Ytdhkemnebppkhaa
open Go.RowKit
set_option linter.unusedVariables false
set_option linter.unusedSimpArgs false
def rdT3 (u : Bool) (gl : List Int) (m : Int) (R : Option (List FnM × List Int)) : Option PrM := match R with
  | none => none
  | some (fs, b4) => rdEnd u gl m fs b4
def rdT2 (u : Bool) (gl : List Int) (m : Int) (b : List Int) : Option PrM := match b with
  | [] => none
  | n :: b3 => rdT3 u gl m (rdFuncs n.toNat b3)
def rdT1 (u : Bool) (gl : List Int) (b : List Int) : Option PrM := match b with
  | [] => none
  | m :: b2 => rdT2 u gl m b2
def rdT0 (b : List Int) : Option PrM := match b with
  | [] => none
  | f :: r => if f ≤ 1 then rdBody (f == 1) r else none
theorem rdBody_none {u : Bool} {b : List Int} (h : rdLst b = none) : rdBody u b = none := by unfold rdBody; rw [h]
theorem rdBody_some {u : Bool} {b b1 gl : List Int} (h : rdLst b = some (gl, b1)) : rdBody u b = rdT1 u gl b1 := by
  unfold rdBody
  rw [h]
  cases b1 with
  | nil => rfl
  | cons m b2 => cases b2 with
    | nil => rfl
    | cons n b3 =>
      show (match rdFuncs n.toNat b3 with | none => none | some (fs, b4) => rdEnd u gl m fs b4) = rdT3 u gl m (rdFuncs n.toNat b3)
      cases rdFuncs n.toNat b3 with
      | none => rfl
      | some p => rfl
theorem rdProg_mark {xs : List Int} (h : xs.take 4 = [84, 77, 66, 49]) : rdProg xs = rdT0 (xs.drop 4) := by
  unfold rdProg
  rw [if_pos (by unfold markB; rw [h]; rfl)]
  rfl
theorem rdProg_nomark {xs : List Int} (h : xs.take 4 ≠ [84, 77, 66, 49]) : rdProg xs = none := by
  unfold rdProg
  rw [if_neg]
  unfold markB
  intro e; exact h (eq_of_beq e)
theorem rdFunc_1 {b : List Int} (h : rdLst b = none) : rdFunc b = none := by unfold rdFunc; rw [h]
theorem rdFunc_2 {b b1 ps : List Int} (h : rdLst b = some (ps, b1)) (h2 : rdLst b1 = none) : rdFunc b = none := by unfold rdFunc; rw [h]; simp only; rw [h2]
theorem rdFunc_3 {b b1 ps ls : List Int} (h : rdLst b = some (ps, b1)) (h2 : rdLst b1 = some (ls, [])) : rdFunc b = none := by unfold rdFunc; rw [h]; simp only; rw [h2]
theorem rdFunc_4 {b b1 ps ls b3 : List Int} {r : Int} (h : rdLst b = some (ps, b1)) (h2 : rdLst b1 = some (ls, r :: b3)) (h3 : rdCodes b3 = none) : rdFunc b = none := by unfold rdFunc; rw [h]; simp only; rw [h2]; simp only; rw [h3]
theorem rdFunc_5 {b b1 ps ls b3 b4 : List Int} {r : Int} {c : List In4} (h : rdLst b = some (ps, b1)) (h2 : rdLst b1 = some (ls, r :: b3)) (h3 : rdCodes b3 = some (c, b4)) : rdFunc b = some (⟨ps, ls, r, c⟩, b4) := by unfold rdFunc; rw [h]; simp only; rw [h2]; simp only; rw [h3]
theorem step_none {u : Bool} {gl : List Int} {m : Int} {done : List FnM} {n : Nat} {b : List Int} (h : rdFunc b = none) : rdT3 u gl m (mapC done (rdFuncs (n + 1) b)) = none := by rw [rdFuncs_no h]; rfl
/-- All that stands while prog reads. -/
structure Und (w wr : World) (g x : Nat) (u : Bool) (gl : List Int) (m : Int) (fs : List FnM) : Prop where
  p : PSt wr x u gl m fs
  gb : w.grownBy wr (some g)
  r : Blk wr w.heap.size [.bool false, .slice none 0 0, .int .i64 0, .slice none 0 0]
  t : tyB wr w.heap.size = some PROT
theorem und_rd {w wr w' : World} {g x : Nat} {u : Bool} {gl : List Int} {m : Int} {fs : List FnM} (h : Und w wr g x u gl m fs) (hg : wr.grownBy w' (some g)) (hgx : g < x) (hgw : g < w.heap.size) (ht : tyB wr g = some RDRT) : Und w w' g x u gl m fs :=
  have hne : some w.heap.size ≠ some g := by intro e; injection e with e; omega
  ⟨pst_keep h.p hg hgx ht, gb_trans h.gb hg, blk_grown h.r hg hne, tyB_grown h.t hg hne⟩
theorem mark_short {xs : List Int} (h : xs.length < 4) : rdProg xs = none := by
  unfold rdProg
  rw [if_neg]
  unfold markB
  intro e
  have e2 := eq_of_beq e
  have e3 := congrArg List.length e2
  rw [List.length_take] at e3
  simp only [List.length_cons, List.length_nil] at e3
  omega
set_option maxRecDepth 100000 in
set_option maxHeartbeats 8000000 in
theorem rprog_any (g : Nat) (xs : List Int) (w : World) (h : RdSt w g xs) (hb : IsBytes xs) (hl : xs.length ≤ 274877906944) : Calls Try.prog 54 #[.pointer (some ⟨g, 0, none⟩)] w (PrEnd (rdProg xs) w g) := by
  have hgl := rdSt_lt h
  have HL := Lib.hid hl
  clear hl
  have hRz : tyB w g = some RDRT := h.1
  have HRZ := Lib.hid hRz
  clear hRz
  have h0 := rdSt_alloc h (.cells #[.bool false, .slice none 0 0, .int .i64 0, .slice none 0 0] PROT)
  by_cases h4 : xs.length < 4
  · have HN := Lib.hid (mark_short h4)
    have h4' : (xs.length : Int) < 4 := by omega
    go_enter Try.func54, Try.ntmps54
    go_wp2_with fail
    refine (take_no g 4 xs _ h0 h4').mono ?_
    rintro e w1 ⟨rfl, rfl⟩
    go_wp2_with fail
    exact ⟨rfl, prEnd_none' HN.out ⟨rfl, gb_alloc (gb_refl _ _) _⟩⟩
  have h4' : (4 : Int) ≤ xs.length := by omega
  have HB := Lib.hid hb
  clear hb
  go_enter Try.func54, Try.ntmps54
  go_wp2_with fail
  refine (take_ok g 4 xs _ h0 (by decide) h4').mono ?_
  rintro e w1 ⟨v1, rfl, hr1, hs1, hg1⟩
  have hr1 : ReadB w1 v1 (xs.take 4) := hr1
  have hs1 : RdSt w1 g (xs.drop 4) := hs1
  have e4 : (xs.take 4).length = 4 := by rw [List.length_take]; omega
  obtain ⟨b, o, cap, hv, r1, r2, r3, r4⟩ := readB_pos hr1 (by omega)
  rw [e4] at hv
  subst hv
  have hcv := fun (W : World) (hW : ∀ j, j < 4 → W.cell? ((⟨b, o, none⟩ : Addr).add j) = some (.int .u8 ((xs.take 4).getD j 0))) => conv_bytes (w := W) (a := ⟨b, o, none⟩) (n := 4) (cap := cap) (xs := xs.take 4) e4 (isBytes_take HB.out 4) hW
  have hcv1 := hcv w1 (fun j hj => by rw [Addr.add_lit]; exact r4 j (by omega))
  have hg1' := gb_trans (gb_alloc (gb_refl w (some g)) (.cells #[.bool false, .slice none 0 0, .int .i64 0, .slice none 0 0] PROT)) hg1
  have hT1 : tyB w1 w.heap.size = some PROT := tyB_grown (tyB_new w _ _) hg1 (by intro e; injection e with e; omega)
  have HT1 := Lib.hid hT1
  clear hT1
  have hB1 : Blk w1 w.heap.size [.bool false, .slice none 0 0, .int .i64 0, .slice none 0 0] := blk_grown (blk_new w _ _) hg1 (by intro e; injection e with e; omega)
  have HG1 := Lib.hid hg1'
  have HBR := Lib.hid hB1
  have HS1 := Lib.hid hs1
  have HH4 := Lib.hid h4
  clear hcv hr1 r1 r2 r3 r4 hs1 h0 hg1 hg1' hB1 h4 e4 h
  by_cases hm : xs.take 4 = [84, 77, 66, 49]
  rotate_left
  · have HN : Hid (rdProg xs = none) := rdProg_nomark hm
    obtain ⟨s, hs⟩ : ∃ s, s = bytesOf (xs.take 4) := ⟨_, rfl⟩
    rw [← hs] at hcv1
    have t : (s.toList == [84, 77, 66, 49]) = false := by
      rw [beq_eq_false_iff_ne]
      intro e
      rw [hs] at e
      exact hm (bytesOf_inj (isBytes_take HB.out 4) (by unfold IsBytes; decide) (e.trans (by unfold bytesOf; rw [ByteArray.toList_mk]; rfl)))
    have HT := Lib.hid hs
    clear hm hs
    go_wp2_with fail
    refine (must_no _).mono ?_
    rintro e w2 ⟨rfl, rfl⟩
    go_wp2_with fail
    exact ⟨rfl, prEnd_none' HN.out ⟨rfl, HG1.out⟩⟩
  rw [hm, show bytesOf [84, 77, 66, 49] = ⟨#[84, 77, 66, 49]⟩ from rfl] at hcv1
  have HM : Hid (rdProg xs = rdT0 (xs.drop 4)) := rdProg_mark hm
  clear hm
  go_wp2_with fail
  refine (must_yes _).mono ?_
  rintro e w2 ⟨rfl, rfl⟩
  clear hcv1
  have hbd : IsBytes (xs.drop 4) := isBytes_drop HB.out 4
  have hld : (xs.drop 4).length ≤ 274877906944 := by have := HL.out; rw [List.length_drop]; omega
  have hs1 := HS1.out
  cases hd : xs.drop 4 with
  | nil =>
    rw [hd] at hs1
    have HN : Hid (rdProg xs = none) := by show _ = _; rw [HM.out, hd]; rfl
    clear hbd hld hd
    go_wp2_with fail
    refine (num_no g _ hs1).mono ?_
    rintro e w2 ⟨rfl, rfl⟩
    go_wp2_with fail
    exact ⟨rfl, prEnd_none' HN.out ⟨rfl, HG1.out⟩⟩
  | cons f r =>
    rw [hd] at hs1 hbd hld
    have hf := hbd f (List.mem_cons_self ..)
    have hbr : IsBytes r := fun y hy => hbd y (List.mem_cons_of_mem _ hy)
    have hlr : r.length ≤ 274877906944 := by simp only [List.length_cons] at hld; omega
    have HM2 : Hid (rdProg xs = if f ≤ 1 then rdBody (f == 1) r else none) := by show _ = _; rw [HM.out, hd]; rfl
    have HBR2 := Lib.hid hbr
    have HLR := Lib.hid hlr
    clear hbd hld hd HM hbr hlr
    go_wp2_with fail
    refine (num_ok g f r _ hs1 hf).mono ?_
    rintro e w2 ⟨rfl, hs2, hg2⟩
    have HG2 := Lib.hid (gb_trans HG1.out hg2)
    have HT2 := Lib.hid (tyB_grown HT1.out hg2 (by intro e; injection e with e; omega))
    have HB2 := Lib.hid (blk_grown HBR.out hg2 (by intro e; injection e with e; omega))
    clear hs1 hg2 HT1
    by_cases hf1 : f ≤ 1
    rotate_left
    · have HN : Hid (rdProg xs = none) := by show _ = _; rw [HM2.out, if_neg hf1]
      have tf : decide (f ≤ 1) = false := decide_eq_false hf1
      go_wp2_with fail
      refine (must_no _).mono ?_
      rintro e w3 ⟨rfl, rfl⟩
      go_wp2_with fail
      exact ⟨rfl, prEnd_none' HN.out ⟨rfl, HG2.out⟩⟩
    have HM3 : Hid (rdProg xs = rdBody (f == 1) r) := by show _ = _; rw [HM2.out, if_pos hf1]
    go_wp2_with fail
    refine (must_yes _).mono ?_
    rintro e w3 ⟨rfl, rfl⟩
    go_wp2_with fail
    refine (rlst_any g r _ hs2 HBR2.out).mono ?_
    intro e w3 h3
    obtain ⟨u, hu⟩ : ∃ u : Bool, u = (f == 1) := ⟨_, rfl⟩
    rw [← hu] at HM3 ⊢
    have HU := Lib.hid hu
    clear hu HM2 hf hf1
    cases hR3 : rdLst r with
    | none =>
      obtain ⟨rfl, hg3⟩ := rdEnd_none h3 hR3
      have HN : Hid (rdProg xs = none) := by show _ = _; rw [HM3.out]; exact rdBody_none hR3
      have HG3 := Lib.hid (gb_trans HG2.out hg3)
      clear h3 hR3 hg3
      go_wp2_with fail
      exact ⟨rfl, prEnd_none' HN.out ⟨rfl, HG3.out⟩⟩
    | some p3 =>
      obtain ⟨gl, b1⟩ := p3
      obtain ⟨v3, rfl, ho3, hs3, hg3⟩ := rdEnd_some h3 hR3
      obtain ⟨q1, q2, q3⟩ := rdLst_rest hR3 HBR2.out
      have HM4 : Hid (rdProg xs = rdT1 u gl b1) := by show _ = _; rw [HM3.out]; exact rdBody_some hR3
      have N3 := num1_of ho3
      have HG3 := Lib.hid (gb_trans HG2.out hg3)
      have HT3 := Lib.hid (tyB_grown HT2.out hg3 (by intro e; injection e with e; omega))
      have HB3 := Lib.hid (blk_grown HB2.out hg3 (by intro e; injection e with e; omega))
      have HQ1 := Lib.hid q1
      have HQ2 : Hid (b1.length ≤ 274877906944) := by show _ ≤ _; have := HLR.out; omega
      clear h3 hR3 hg3 ho3 q1 q2 q3 HM3 hs2
      cases b1 with
      | nil =>
        have HN : Hid (rdProg xs = none) := HM4.out
        go_wp2_with fail
        refine (num_no g _ hs3).mono ?_
        rintro e w4 ⟨rfl, rfl⟩
        go_wp2_with fail
        exact ⟨rfl, prEnd_none' HN.out ⟨rfl, HG3.out⟩⟩
      | cons m b2 =>
        have hm2 := HQ1.out m (List.mem_cons_self ..)
        have HBB2 : Hid (IsBytes b2) := fun y hy => HQ1.out y (List.mem_cons_of_mem _ hy)
        have HLB2 : Hid (b2.length ≤ 274877906944) := by show _ ≤ _; have := HQ2.out; simp only [List.length_cons] at this; omega
        go_wp2_with fail
        refine (num_ok g m b2 _ hs3 hm2).mono ?_
        rintro e w4 ⟨rfl, hs4, hg4⟩
        have N4 := num1_keep N3 (keepT_rd hs3 hg4)
        have HG4 := Lib.hid (gb_trans HG3.out hg4)
        have HT4 := Lib.hid (tyB_grown HT3.out hg4 (by intro e; injection e with e; omega))
        have HB4 := Lib.hid (blk_grown HB3.out hg4 (by intro e; injection e with e; omega))
        have hw4 := (gb_trans HG3.out hg4).size
        clear N3 hs3 hg4 HQ1 HQ2 hm2
        obtain ⟨ga, gn, gc, rfl, ng1, ng2⟩ := N4
        have PS : PSt (w4.alloc (.cells #[.bool u, .slice ga gn gc, .int .i64 m, .slice none 0 0] PROT)) w4.heap.size u gl m [] :=
          ⟨.slice none 0 0, ga, gn, gc, [], ownR_nil _ _, trivial, readI_below ng1 (b_alloc (Below.refl _ _) _), slOk_keep ng2 (keepT_ty (keepT_below (b_alloc (Below.refl _ _) _)) (Or.inl rfl)), blk_new _ _ _, tyB_new _ _ _⟩
        have HPS := Lib.hid PS
        have hs5 := rdSt_alloc hs4 (.cells #[.bool u, .slice ga gn gc, .int .i64 m, .slice none 0 0] PROT)
        have HG5 := Lib.hid (gb_alloc HG4.out (.cells #[.bool u, .slice ga gn gc, .int .i64 m, .slice none 0 0] PROT))
        have HB5 := Lib.hid (blk_alloc HB4.out (.cells #[.bool u, .slice ga gn gc, .int .i64 m, .slice none 0 0] PROT))
        have tu : (f == 1) = u := HU.out.symm
        clear PS ng1 ng2 hs4
        go_upto_region 5 with fail
        refine wp_named ?_
        intro w5 hw5
        have hxw : w.heap.size < w4.heap.size := HB4.out.1
        have hU5 : Und w w5 g w4.heap.size u gl m [] := by
          rw [hw5]; exact ⟨HPS.out, HG5.out, HB5.out, tyB_alloc HT4.out _⟩
        have hs5' : RdSt w5 g b2 := by rw [hw5]; exact hs5
        have HM5 : Hid (rdProg xs = rdT2 u gl m b2) := HM4.out
        have hgx : g < w4.heap.size := by omega
        obtain ⟨x, hx⟩ : ∃ x, x = w4.heap.size := ⟨_, rfl⟩
        rw [← hx] at hxw hU5 hgx ⊢
        clear hw5 hs5 HPS HG5 HB5 HM4 HB4 HG4 hx HT4
        cases b2 with
        | nil =>
          have HN : Hid (rdProg xs = none) := HM5.out
          go_wp2_with fail
          refine (num_no g _ hs5').mono ?_
          rintro e w6 ⟨rfl, rfl⟩
          go_wp2_with fail
          exact ⟨rfl, prEnd_none' HN.out ⟨rfl, hU5.gb⟩⟩
        | cons n b3 =>
          have hn2 := HBB2.out n (List.mem_cons_self ..)
          have HBB3 : Hid (IsBytes b3) := fun y hy => HBB2.out y (List.mem_cons_of_mem _ hy)
          have HLB3 : Hid (b3.length ≤ 274877906944) := by show _ ≤ _; have := HLB2.out; simp only [List.length_cons] at this; omega
          obtain ⟨N, rfl⟩ : ∃ N : Nat, n = N := ⟨n.toNat, by omega⟩
          have HM6 : Hid (rdProg xs = rdT3 u gl m (mapC [] (rdFuncs (N - 0) b3))) := by
            show _ = _
            rw [HM5.out]
            show rdT3 u gl m (rdFuncs N b3) = _
            rw [Nat.sub_zero]
            cases rdFuncs N b3 with
            | none => rfl
            | some p => rfl
          go_wp2_with fail
          refine (num_ok g N b3 _ hs5' hn2).mono ?_
          rintro e w6 ⟨rfl, hs6, hg6⟩
          have HU6 := Lib.hid (und_rd hU5 hg6 hgx hgl hs5'.1)
          have HS6 := Lib.hid hs6
          have hN : (N : Int) < 256 := hn2.2
          clear hU5 hs5' hs6 hg6 HM5 HBB2 HLB2 hn2
          go_wp2_with fail
          go_loopw [25] (fun i wr => ∃ k : Nat, k ≤ N ∧ i = .int .i64 k ∧ ∃ (done : List FnM) (b : List Int), Hid (rdProg xs = rdT3 u gl m (mapC done (rdFuncs (N - k) b))) ∧ Hid (done.length = k) ∧ Hid (IsBytes b) ∧ Hid (b.length ≤ 274877906944) ∧ Hid (Und w wr g x u gl m done) ∧ Hid (RdSt wr g b)) (fun i _ => N - (intOf i).toNat)
          case atStart => exact ⟨0, Nat.zero_le _, rfl, [], b3, HM6.out, rfl, HBB3.out, HLB3.out, HU6.out, HS6.out⟩
          case round =>
            obtain ⟨k, hk, rfl, done, b, he, hdl, hbb, hbl, hU, hs⟩ := hrel
            have k0 : (0 : Int) ≤ k := by omega
            by_cases hlt : k < N
            · have k1 : (k : Int) < N := by omega
              have HE : Hid (rdProg xs = rdT3 u gl m (mapC done (rdFuncs ((N - (k + 1)) + 1) b))) := by
                show _ = _
                have e := he.out
                rw [show N - k = (N - (k + 1)) + 1 by omega] at e
                exact e
              have HNo : Hid (rdFunc b = none → rdProg xs = none) := fun e => by rw [HE.out, step_none e]
              have HYes : Hid (∀ f b1, rdFunc b = some (f, b1) → rdProg xs = rdT3 u gl m (mapC (done ++ [f]) (rdFuncs (N - (k + 1)) b1))) := fun f b1 e => by rw [HE.out, rdFuncs_ok e]
              go_wp2_with fail
              refine (rlst_any g b _ hs.out hbb.out).mono ?_
              intro e w2 h2
              cases hR1 : rdLst b with
              | none =>
                obtain ⟨rfl, hg2⟩ := rdEnd_none h2 hR1
                have HN := Lib.hid (HNo.out (rdFunc_1 hR1))
                have HGG := Lib.hid (gb_trans hU.out.gb hg2)
                clear h2 hR1 hg2
                go_wp2_with fail
                exact ⟨rfl, prEnd_none' HN.out ⟨rfl, HGG.out⟩⟩
              | some p1 =>
                obtain ⟨ps, b1⟩ := p1
                obtain ⟨v2, rfl, ho2, hs2, hg2⟩ := rdEnd_some h2 hR1
                obtain ⟨q1, q2, _⟩ := rdLst_rest hR1 hbb.out
                have N2 := num1_of ho2
                have U2 := und_rd hU.out hg2 hgx hgl hs.out.1
                have HR1 := Lib.hid hR1
                have HQ1 := Lib.hid q1
                have HQ2 : Hid (b1.length ≤ 274877906944) := by show _ ≤ _; have := hbl.out; omega
                clear h2 hR1 ho2 hg2 q1 q2
                go_wp2_with fail
                refine (rlst_any g b1 _ hs2 HQ1.out).mono ?_
                intro e w3 h3
                cases hR2 : rdLst b1 with
                | none =>
                  obtain ⟨rfl, hg3⟩ := rdEnd_none h3 hR2
                  have HN := Lib.hid (HNo.out (rdFunc_2 HR1.out hR2))
                  have HGG := Lib.hid (gb_trans U2.gb hg3)
                  clear h3 hR2 hg3 U2 N2
                  go_wp2_with fail
                  exact ⟨rfl, prEnd_none' HN.out ⟨rfl, HGG.out⟩⟩
                | some p2 =>
                  obtain ⟨ls, b2⟩ := p2
                  obtain ⟨v3, rfl, ho3, hs3, hg3⟩ := rdEnd_some h3 hR2
                  obtain ⟨q1, q2, _⟩ := rdLst_rest hR2 HQ1.out
                  have M3 := num1_of ho3
                  have N3 := num1_keep N2 (keepT_rd hs2 hg3)
                  have U3 := und_rd U2 hg3 hgx hgl hs2.1
                  have HR2 := Lib.hid hR2
                  have HQ3 := Lib.hid q1
                  have HQ4 : Hid (b2.length ≤ 274877906944) := by show _ ≤ _; have := HQ2.out; omega
                  clear h3 hR2 ho3 hg3 q1 q2 N2 U2 hs2
                  cases b2 with
                  | nil =>
                    have HN := Lib.hid (HNo.out (rdFunc_3 HR1.out HR2.out))
                    have HGG := Lib.hid U3.gb
                    clear U3 N3 M3
                    go_wp2_with fail
                    refine (num_no g _ hs3).mono ?_
                    rintro e w4 ⟨rfl, rfl⟩
                    go_wp2_with fail
                    exact ⟨rfl, prEnd_none' HN.out ⟨rfl, HGG.out⟩⟩
                  | cons r b3 =>
                    have hr := HQ3.out r (List.mem_cons_self ..)
                    have HQ5 : Hid (IsBytes b3) := fun y hy => HQ3.out y (List.mem_cons_of_mem _ hy)
                    have HQ6 : Hid (b3.length ≤ 274877906944) := by show _ ≤ _; have := HQ4.out; simp only [List.length_cons] at this; omega
                    go_wp2_with fail
                    refine (num_ok g r b3 _ hs3 hr).mono ?_
                    rintro e w4 ⟨rfl, hs4, hg4⟩
                    have K4 := keepT_rd hs3 hg4
                    have N4 := num1_keep N3 K4
                    have M4 := num1_keep M3 K4
                    have U4 := und_rd U3 hg4 hgx hgl hs3.1
                    clear N3 M3 K4 U3 hs3 hg4 hr
                    obtain ⟨pa, pn, pc, rfl, pr1, pr2⟩ := N4
                    obtain ⟨la, ln, lc, rfl, lr1, lr2⟩ := M4
                    obtain ⟨⟨fv, a5, n5, c5, L, o1, o2, o3, o4, o5, o6⟩, ugb, ur, ut⟩ := U4
                    have hlt5 := ownR_lt o1
                    have hx5 := o5.1
                    go_upto_region 8 with fail
                    refine wp_named ?_
                    intro w5 hw5
                    have hb45 : Below w4.heap.size w4 w5 := by rw [hw5]; exact b_alloc (Below.refl _ _) _
                    have BY5 : Blk w5 w4.heap.size [.slice pa pn pc, .slice la ln lc, .int .i64 r, .slice none 0 0] := by rw [hw5]; exact blk_new _ _ _
                    have TY5 : tyB w5 w4.heap.size = some FUNT := by rw [hw5]; exact tyB_new _ _ _
                    have hs5 := rdSt_below hs4 hb45
                    have K5 := keepT_below hb45
                    have hw45 : w.heap.size ≤ w4.heap.size := ugb.size
                    clear hw5
                    go_wp2_with fail
                    refine (rcode_any g b3 _ hs5 HQ5.out HQ6.out).mono ?_
                    intro e w6 h6
                    cases hR3 : rdCodes b3 with
                    | none =>
                      obtain ⟨rfl, hg6⟩ := rdEnd_none h6 hR3
                      have HN := Lib.hid (HNo.out (rdFunc_4 HR1.out HR2.out hR3))
                      have HGG := Lib.hid (gb_trans (gb_below ugb hb45) hg6)
                      clear h6 hR3 hg6 o1 o2 o3 o4 o5 o6 pr1 pr2 lr1 lr2 hb45 K5 hs5 BY5 TY5 ur ut ugb hlt5
                      go_wp2_with fail
                      exact ⟨rfl, prEnd_none' HN.out ⟨rfl, HGG.out⟩⟩
                    | some p6 =>
                      obtain ⟨code, b4⟩ := p6
                      obtain ⟨v6, rfl, ho6, hs6, hg6⟩ := rdEnd_some h6 hR3
                      obtain ⟨q1, q2, _⟩ := rdCodes_rest hR3 HQ5.out
                      have HF := Lib.hid (rdFunc_5 HR1.out HR2.out hR3)
                      have HB4 := Lib.hid q1
                      have HB5 : Hid (b4.length ≤ 274877906944) := by show _ ≤ _; have := HQ6.out; omega
                      obtain ⟨ca, cc, rfl, _⟩ := readR_len (ownR_read ho6)
                      have cr1 := ownR_read ho6
                      have cr2 := ownR_slOk ho6
                      have K6 := keepT_trans K5 (keepT_rd hs5 hg6)
                      have hneY : some w4.heap.size ≠ some g := by intro e; injection e with e; omega
                      have hneX : some x ≠ some g := by intro e; injection e with e; omega
                      have hneR : some w.heap.size ≠ some g := by intro e; injection e with e; omega
                      have hneO : fv.ownBlock = none ∨ fv.ownBlock ≠ some g := by
                        cases hv : fv.ownBlock with
                        | none => exact Or.inl rfl
                        | some j => exact Or.inr (by intro e; injection e with e; have := (hlt5 j hv).1; omega)
                      have BY6 := blk_grown BY5 hg6 hneY
                      have TY6 := tyB_grown TY5 hg6 hneY
                      have O1 := ownR_kept (ownR_below o1 hb45) hg6 hneO
                      have BX6 := blk_grown (blk_below o5 hb45) hg6 hneX
                      have TX6 := tyB_grown (tyB_call o6 hb45) hg6 hneX
                      have R6 := blk_grown (blk_below ur hb45) hg6 hneR
                      have T6 := tyB_grown (tyB_call ut hb45) hg6 hneR
                      have G6 := gb_trans (gb_below ugb hb45) hg6
                      have A6 := allT_keep K6 o2
                      have L6 := readI_keep K6 o4 o3
                      have S6 := slOk_keep o4 (keepT_ty K6 (Or.inl rfl))
                      have P6 := readI_keep K6 pr2 pr1
                      have PS6 := slOk_keep pr2 (keepT_ty K6 (Or.inl rfl))
                      have LL6 := readI_keep K6 lr2 lr1
                      have LS6 := slOk_keep lr2 (keepT_ty K6 (Or.inl rfl))
                      have hxy : x < w4.heap.size := hx5
                      clear h6 hR3 hg6 ho6 o1 o2 o3 o4 o5 o6 pr1 pr2 lr1 lr2 hb45 K5 hs5 BY5 TY5 ur ut ugb q1 q2 K6 hneO hneR hneX hneY
                      obtain ⟨y, hy⟩ : ∃ y, y = w4.heap.size := ⟨_, rfl⟩
                      rw [← hy] at BY6 TY6 hxy hlt5 hw45 ⊢
                      clear hy hx5 hs4
                      have HBY := Lib.hid BY6
                      obtain ⟨y0, y1, y2, y3, yf⟩ := blk4 BY6
                      obtain ⟨z0, z1, z2, z3, zf⟩ := blk4 BX6
                      have hxy' : ¬ y = x := by omega
                      go_upto_region 9 with fail
                      refine wp_named ?_
                      intro w8 hw8
                      have GY : w6.grownBy w8 (some y) := by rw [hw8]; exact gb_set (gb_refl w6 (some y)) 3 none _
                      have BY8 : Blk w8 y [.slice pa pn pc, .slice la ln lc, .int .i64 r, .slice ca code.length cc] := by rw [hw8]; exact blk_set HBY.out 3 _
                      have K8 : KeepT w6 w8 := keepT_grown GY (fun j e => by injection e with e; subst e; exact ⟨FUNT, TY6, by decide, by decide⟩)
                      have hneX : some x ≠ some y := by intro e; injection e with e; omega
                      have hneR : some w.heap.size ≠ some y := by intro e; injection e with e; omega
                      have O8 := ownR_kept O1 GY (by
                        cases hv : fv.ownBlock with
                        | none => exact Or.inl rfl
                        | some j => exact Or.inr (by intro e; injection e with e; have := (hlt5 j hv).2; omega))
                      have BX8 := blk_grown BX6 GY hneX
                      have TX8 := tyB_grown TX6 GY hneX
                      have R8 := blk_grown R6 GY hneR
                      have T8 := tyB_grown T6 GY hneR
                      have G8 := gb_newer G6 GY (fun j e => by injection e with e; subst e; exact hw45)
                      have hs8 := rdSt_grown hs6 GY (fun j e => by injection e with e; subst e; omega)
                      have A8 := allT_keep K8 A6
                      have L8 := readI_keep K8 S6 L6
                      have S8 := slOk_keep S6 (keepT_ty K8 (Or.inl rfl))
                      have DF8 : DeepF w8 ⟨⟨pa, pn, pc⟩, ⟨la, ln, lc⟩, r, ⟨ca, code.length, cc⟩⟩ ⟨ps, ls, r, code⟩ := ⟨readI_keep K8 PS6 P6, readI_keep K8 LS6 LL6, rfl, readR_apart cr1 cr2 K8.1 (fun k hk => K8.2 k (Or.inr hk))⟩
                      have FT8 : FnT w8 ⟨⟨pa, pn, pc⟩, ⟨la, ln, lc⟩, r, ⟨ca, code.length, cc⟩⟩ := ⟨slOk_keep PS6 (keepT_ty K8 (Or.inl rfl)), slOk_keep LS6 (keepT_ty K8 (Or.inl rfl)), slOk_keep cr2 (keepT_ty K8 (Or.inr rfl))⟩
                      clear hw8 GY K8 BX6 TX6 R6 T6 G6 hs6 A6 L6 S6 P6 PS6 LL6 LS6 cr1 cr2 O1 y0 y1 y2 y3 yf z0 z1 z2 z3 zf BY6 HBY
                      have HOA := Lib.hid (ownR_alloc O8 (.cells #[.slice pa pn pc, .slice la ln lc, .int .i64 r, .slice ca code.length cc] FUNT))
                      have HRN := Lib.hid (show ReadR fnE (w8.alloc (.cells #[.slice pa pn pc, .slice la ln lc, .int .i64 r, .slice ca code.length cc] FUNT)) (.slice (some ⟨w8.heap.size, 0, none⟩) 1 1) [⟨⟨pa, pn, pc⟩, ⟨la, ln, lc⟩, r, ⟨ca, code.length, cc⟩⟩] from readR_new (c := fnE) w8 FUNT ⟨⟨pa, pn, pc⟩, ⟨la, ln, lc⟩, r, ⟨ca, code.length, cc⟩⟩)
                      have HLL : Hid (L.length ≤ 256) := by show _ ≤ _; have := allF_len (allT_F A8); have := hdl.out; omega
                      obtain ⟨y0, y1, y2, y3, yf⟩ := blk4 BY8
                      obtain ⟨z0, z1, z2, z3, zf⟩ := blk4 BX8
                      have hly := BY8.1
                      have hlx := BX8.1
                      have H8 := Lib.hid (And.intro (And.intro BX8 TX8) (And.intro (And.intro R8 T8) (And.intro G8 hs8)))
                      have H8b := Lib.hid (And.intro (And.intro A8 L8) (And.intro S8 (And.intro DF8 FT8)))
                      clear BX8 TX8 R8 T8 G8 hs8 A8 L8 S8 DF8 FT8 BY8 O8
                      go_upto_region 10 with (at_builtin; (refine appendR rowPFn rfl _ _ rfl (x + 1) fv L rfl HOA.out _ [⟨⟨pa, pn, pc⟩, ⟨la, ln, lc⟩, r, ⟨ca, code.length, cc⟩⟩] rfl HRN.out ?c1 ?c2 ?c3 ?_); (case c1 => (have := HLL.out; rw [List.length_singleton]; omega)); (case c2 => (have := HLL.out; rw [List.length_singleton]; unfold maxLen; omega)); (case c3 => (simp only [World.size_alloc]; omega)); intro v10 w10 own10 hg10; have hneX : some x ≠ fv.ownBlock := (fun e => by have := (ownR_lt HOA.out x e.symm).1; omega); obtain ⟨L9, hL9⟩ : ∃ L9, L9 = L ++ [(⟨⟨pa, pn, pc⟩, ⟨la, ln, lc⟩, r, ⟨ca, code.length, cc⟩⟩ : FnV)] := ⟨_, rfl⟩; rw [← hL9] at own10; obtain ⟨g10, cap10, hv10, gg10, _⟩ := ownR_form own10 (by rw [hL9]; simp); obtain ⟨n10, hn10⟩ : ∃ n, n = L9.length := ⟨_, rfl⟩; rw [← hn10] at hv10; subst hv10; have HL9 := Lib.hid hL9; clear hL9 hn10; obtain ⟨⟨BX8, TX8⟩, _⟩ := H8.out; have BX10 := blk_grown (blk_alloc BX8 _) hg10 hneX; clear z0 z1 z2 z3 zf; obtain ⟨z0, z1, z2, z3, zf⟩ := blk4 BX10)
                      refine wp_named ?_
                      intro w11 hw11
                      have hlt9 := ownR_lt HOA.out
                      have GX : w10.grownBy w11 (some x) := by rw [hw11]; exact gb_set (gb_refl w10 (some x)) 3 none _
                      have BX11 : Blk w11 x [.bool u, .slice a5 n5 c5, .int .i64 m, .slice (some ⟨g10, 0, none⟩) n10 cap10] := by rw [hw11]; exact blk_set BX10 3 _
                      obtain ⟨_, ⟨R8, T8⟩, G8, hs8⟩ := H8.out
                      obtain ⟨⟨A8, L8⟩, S8, DF8, FT8⟩ := H8b.out
                      have K9 := keepT_below (b_alloc (Below.refl w8.heap.size w8) (.cells #[.slice pa pn pc, .slice la ln lc, .int .i64 r, .slice ca code.length cc] FUNT))
                      have K10 := keepT_trans K9 (keepT_grown hg10 (fun j e => ⟨FUNT, ownR_ty HOA.out j e, by decide, by decide⟩))
                      have TX10 := tyB_grown (tyB_alloc TX8 _) hg10 hneX
                      have K11 := keepT_trans K10 (keepT_grown GX (fun j e => by injection e with e; subst e; exact ⟨PROT, TX10, by decide, by decide⟩))
                      have hneR : some w.heap.size ≠ fv.ownBlock := fun e => by have := (hlt9 _ e.symm).1; omega
                      have hneR2 : some w.heap.size ≠ some x := by intro e; injection e with e; omega
                      have hl10 := ownR_lt own10
                      have UU : Und w w11 g x u gl m (done ++ [⟨ps, ls, r, code⟩]) := by
                        refine ⟨⟨_, a5, n5, c5, L ++ [⟨⟨pa, pn, pc⟩, ⟨la, ln, lc⟩, r, ⟨ca, code.length, cc⟩⟩], by rw [← HL9.out]; exact ownR_kept own10 GX (Or.inr (by intro e; have e1 : some g10 = some x := e; injection e1; omega)), allT_snoc (deepF_keep K11 FT8 DF8) (fnT_keep K11 FT8) (allT_keep K11 A8), readI_keep K11 S8 L8, slOk_keep S8 (keepT_ty K11 (Or.inl rfl)), BX11, ?_⟩, ?_, blk_grown (blk_grown (blk_alloc R8 _) hg10 hneR) GX hneR2, tyB_grown (tyB_grown (tyB_alloc T8 _) hg10 hneR) GX hneR2⟩
                        · rw [hw11, tyB_set]; exact TX10
                        · exact gb_newer (gb_newer (gb_alloc G8 _) hg10 (fun j e => by have := (hlt9 j e).1; omega)) GX (fun j e => by injection e with e; omega)
                      have RR : RdSt w11 g b4 := rdSt_grown (rdSt_grown (rdSt_alloc hs8 _) hg10 (fun j e => by have := (hlt9 j e).1; omega)) GX (fun j e => by injection e with e; omega)
                      have HUU := Lib.hid UU
                      have HRR := Lib.hid RR
                      clear UU RR hneR hneR2 hl10 K11 TX10 K10 K9 A8 L8 S8 DF8 FT8 R8 T8 G8 hs8 BX11 GX hw11 hlt9 BX10 hg10 own10 z0 z1 z2 z3 zf y0 y1 y2 y3 yf BX8 TX8
                      go_wp2_with fail
                      go_roundw
                      case rel => exact ⟨k + 1, by omega, by first | rfl | trivial | go_num, done ++ [(⟨ps, ls, r, code⟩ : FnM)], b4, HYes.out _ _ HF.out, (by show _ = _; rw [List.length_append, hdl.out]; rfl), HB4.out, HB5.out, HUU.out, HRR.out⟩
                      case measure => simp [intOf]; omega
            · have ek : k = N := by omega
              subst ek
              have HR : Hid (rdProg xs = rdEnd u gl m done b) := by
                show _ = _
                rw [he.out, Nat.sub_self]
                show rdT3 u gl m (mapC done (some ([], b))) = _
                simp [mapC, rdT3]
              obtain ⟨⟨fv, a5, n5, c5, L, o1, o2, o3, o4, o5, o6⟩, ugb, ur, ut⟩ := hU.out
              obtain ⟨hty, v0, hblk, hrd, hob⟩ := hs.out
              obtain ⟨d0, df⟩ := blk1 hblk
              obtain ⟨ba, bc, rfl⟩ := readB_len hrd
              obtain ⟨z0, z1, z2, z3, zf⟩ := blk4 o5
              obtain ⟨va, vc, hfv, _⟩ := readR_len (ownR_read o1)
              have hfl := allF_len (allT_F o2)
              obtain ⟨vn, hvn⟩ : ∃ vn, vn = L.length := ⟨_, rfl⟩
              rw [← hvn] at hfv
              subst hfv
              have RP : ReadP wr ⟨u, ⟨a5, n5, c5⟩, m, ⟨va, vn, vc⟩⟩ ⟨u, gl, m, done⟩ := ⟨rfl, o3, rfl, L, ownR_read o1, allT_F o2⟩
              have HRP := Lib.hid RP
              have HO1 := Lib.hid o1
              have HO2 := Lib.hid o2
              have HO34 := Lib.hid (And.intro o3 o4)
              have HO5 := Lib.hid o5
              have HUG := Lib.hid (And.intro ugb (And.intro ur ut))
              have HXT := Lib.hid o6
              have hlx := o5.1
              have hlw := ur.1
              clear o1 o2 o3 o4 o5 o6 ugb ur ut hty hblk hrd hob RP hvn hfl he
              by_cases hb0 : b = []
              rotate_left
              · have HN : Hid (rdProg xs = none) := by show _ = _; rw [HR.out]; unfold rdEnd; cases b with
                  | nil => exact absurd rfl hb0
                  | cons => rfl
                have hbl0 : 0 < b.length := List.length_pos_iff.2 hb0
                have t : ((b.length : Int) == 0) = false := by simp; omega
                clear hb0
                go_wp2_with fail
                refine (must_no _).mono ?_
                rintro e w2 ⟨rfl, rfl⟩
                go_wp2_with fail
                exact ⟨rfl, prEnd_none' HN.out ⟨rfl, HUG.out.1⟩⟩
              · subst hb0
                have HR2 : Hid (rdProg xs = if mayP ⟨u, gl, m, done⟩ = true then some ⟨u, gl, m, done⟩ else none) := by show _ = _; rw [HR.out]; unfold rdEnd; rfl
                go_wp2_with fail
                refine (pmay_any ⟨u, ⟨a5, n5, c5⟩, m, ⟨va, vn, vc⟩⟩ ⟨u, gl, m, done⟩ _ HRP.out).mono ?_
                rintro e w2 ⟨rfl, hb2⟩
                obtain ⟨t, ht⟩ : ∃ t, t = mayP ⟨u, gl, m, done⟩ := ⟨_, rfl⟩
                rw [← ht] at HR2 ⊢
                have HTT := Lib.hid ht
                clear ht z0 z1 z2 z3 zf d0 df
                have hlx2 : x < w2.heap.size := Nat.lt_of_lt_of_le hlx hb2.size
                have hlw2 : w.heap.size < w2.heap.size := Nat.lt_of_lt_of_le hlw hb2.size
                have BX2 := blk_below HO5.out hb2
                obtain ⟨z0, z1, z2, z3, zf⟩ := blk4 BX2
                have BR2 := blk_below HUG.out.2.1 hb2
                obtain ⟨y0, y1, y2, y3, yf⟩ := blk4 BR2
                have HB2 := Lib.hid hb2
                have HBR2' := Lib.hid BR2
                clear BX2 BR2 hb2
                cases t
                · have HN : Hid (rdProg xs = none) := by show _ = _; rw [HR2.out]; rfl
                  go_wp2_with fail
                  refine (must_no _).mono ?_
                  rintro e w3 ⟨rfl, rfl⟩
                  go_wp2_with fail
                  exact ⟨rfl, prEnd_none' HN.out ⟨rfl, gb_below HUG.out.1 HB2.out⟩⟩
                · have HN : Hid (rdProg xs = some ⟨u, gl, m, done⟩) := by show _ = _; rw [HR2.out]; rfl
                  have hxw' : ¬ w.heap.size = x := by omega
                  go_wp2_with fail
                  refine (must_yes _).mono ?_
                  rintro e w3 ⟨rfl, rfl⟩
                  go_wp2_with fail
                  refine post_named ?_
                  intro wF hwF
                  have BF : Blk wF w.heap.size [.bool u, .slice a5 n5 c5, .int .i64 m, .slice va vn vc] := by rw [hwF]; exact blk_set (blk_set (blk_set (blk_set HBR2'.out 0 _) 1 _) 2 _) 3 _
                  have GF := gb_set (gb_set (gb_set (gb_set (gb_refl w2 (some w.heap.size)) 0 none (.bool u)) 1 none (.slice a5 n5 c5)) 2 none (.int .i64 m)) 3 none (.slice va vn vc)
                  rw [← hwF] at GF
                  have K2 := keepT_below HB2.out
                  have KF := keepT_trans K2 (keepT_grown GF (fun j e => by injection e with e; subst e; exact ⟨PROT, tyB_call HUG.out.2.2 HB2.out, by decide, by decide⟩))
                  have OF := ownR_kept (ownR_below HO1.out HB2.out) GF (by
                    cases hv : (Value.slice va vn vc).ownBlock with
                    | none => exact Or.inl rfl
                    | some j => exact Or.inr (by intro e; injection e with e; have := (ownR_lt HO1.out j hv).1; omega))
                  have GG := gb_newer (gb_below HUG.out.1 HB2.out) GF (fun j e => by injection e with e; omega)
                  clear hwF GF
                  obtain ⟨c0, c1, c2, c3, _⟩ := blk4 BF
                  refine bodyPost_ret (v := aggP ⟨u, ⟨a5, n5, c5⟩, m, ⟨va, vn, vc⟩⟩) (by simp [results, Try.results54, go_sem, c0, c1, c2, c3]; rfl) rfl ?_
                  exact prEnd_some' HN.out ⟨_, rfl, ⟨rfl, rfl, readI_keep KF HO34.out.2 HO34.out.1, slOk_keep HO34.out.2 (keepT_ty KF (Or.inl rfl)), L, ownR_mono OF (by omega), allT_keep KF HO2.out⟩, GG⟩
end Go.Proofs.Ytdhkemnebppkhaa
