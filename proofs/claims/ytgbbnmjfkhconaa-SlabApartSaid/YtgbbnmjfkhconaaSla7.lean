/- Layer 7: the law's Make; chapter 7's example. Conditions: those stated. -/
import Derived.Test.YtgbbnmjfkhconaaSla6
namespace Go.Proofs.Ytgbbnmjfkhconaa
open Go.RowKit
set_option linter.unusedVariables false
set_option linter.unusedSimpArgs false
attribute [local go_sem] over_cell over_frozen
variable {w w' : World} {b : SlB} {m : SlM} {P Z N : Nat} {fl : List Nat}
/-- A whole slab. -/
structure SlG (w : World) (b : SlB) (m : SlM) (P Z N : Nat) (fl : List Nat) : Prop where
  a : SlAt w b m
  g : SGood m P Z N fl
/-- All that may turn is new. -/
def slNew (n : Nat) (b : SlB) : Prop := (n ≤ b.s ∧ n ≤ b.ag) ∧ n ≤ b.lg ∧ n ≤ b.hg
theorem b_slx {w0 : World} (h : Below w0.heap.size w0 w) (hn : slNew w0.heap.size b) (hg : GrowX w w' (slX b)) : Below w0.heap.size w0 w' :=
  b_gx h hg (fun k hk => by
    obtain ⟨⟨n1, n2⟩, n3, n4⟩ := hn
    rcases hk with q | q | q | q <;> omega)
theorem pagesN_small {n : Nat} (h : n ≤ 256) : 256 * pagesN (n : Int) = 256 * n := by
  unfold pagesN; rw [if_neg (by omega), if_neg (by omega)]; omega
set_option maxHeartbeats 2000000 in
theorem awake7 (w : World) : Calls Try.prog 55 #[] w fun e w' => e = .returned (.bool true) ∧ Below w.heap.size w w' := by
  have HNA := Lib.hid (fun w => anew_any 1 w)
  rw [show 256 * pagesN 1 = 256 from rfl] at HNA
  have HNL := Lib.hid (fun w => new_any 1 (by omega) (by omega) w)
  obtain ⟨kk0, kk1⟩ := keyI_bd 1
  have hz : ClsOf 3 128 2 := Or.inr (Or.inr (Or.inr ⟨rfl, rfl, rfl⟩))
  obtain ⟨L0, hL0⟩ : ∃ L0, L0 = List.replicate 256 (0 : Int) := ⟨_, rfl⟩
  rw [← hL0] at HNA
  have HL0 : Hid (L0.length = 256) := Lib.hid (by rw [hL0, List.length_replicate])
  generalize keyI 1 = key at *
  have HMK := Lib.hid (fun w' ab ag ac (h : AreAt w' ab ag ac L0) => smake_ok (P := 0) h key kk0 kk1 3 0 hz (by have := HL0.out; omega))
  clear hz hL0
  go_enter Try.func55, Try.ntmps55
  go_wp2_with fail
  refine (HNA.out _).mono ?_
  rintro e w1 ⟨ab, ag, ac, rfl, ha1, n1, n2, hb1⟩
  have HA1 := Lib.hid ha1
  have HB1 := Lib.hid hb1
  have HN1 := Lib.hid (And.intro n1 n2)
  clear ha1 hb1 n1 n2
  go_wp2_with fail
  refine (HNL.out _).mono ?_
  rintro e w2 ⟨rfl, hb2⟩
  have HA2 := Lib.hid (are_below HA1.out hb2)
  have HB2 := Lib.hid (b_call HB1.out hb2)
  clear hb2
  have HM2 := Lib.hid (HMK.out w2 ab ag ac HA2.out)
  unfold tp at *
  go_wp2_with fail
  refine HM2.out.mono ?_
  rintro e w3 ⟨b, m, rfl, ha, hg, ⟨e1, e2, e3⟩, _, ⟨o1, o2, o3, o4, o5⟩, hgx⟩
  have H3 := Lib.hid (show SlG w3 b m 0 128 2 [0, 1] from ⟨ha, hg⟩)
  have hsz := HB2.out.size
  have HNW : Hid (slNew w.heap.size b) := Lib.hid ⟨⟨by omega, by rw [e2]; exact HN1.out.2⟩, by omega, by omega⟩
  have HB3 : Hid (Below w.heap.size w w3) := Lib.hid (b_gx HB2.out hgx (fun k hk => by rw [hk]; exact HN1.out.2))
  clear ha hg e1 e2 e3 o1 o2 o3 o4 o5 hgx hsz HM2
  have HT1 := Lib.hid (stake_any H3.out.a H3.out.g)
  unfold sp at *
  go_wp2_with fail
  refine HT1.out.mono ?_
  rintro e w4 ⟨rfl, ha4, hg4⟩
  have HB4 := Lib.hid (b_slx HB3.out HNW.out hg4)
  have H4 := Lib.hid (show SlG w4 b (takeM m 0 128 0 [1]) 0 128 2 [1] from ⟨ha4, (good_take H3.out.g).1⟩)
  clear ha4 hg4 HT1
  have HT2 := Lib.hid (stake_any H4.out.a H4.out.g)
  unfold sp at HT2
  go_wp2_with fail
  refine HT2.out.mono ?_
  rintro e w5 ⟨rfl, ha5, hg5⟩
  have HB5 := Lib.hid (b_slx HB4.out HNW.out hg5)
  have H5 := Lib.hid (show SlG w5 b (takeM (takeM m 0 128 0 [1]) 0 128 1 []) 0 128 2 [] from ⟨ha5, (good_take H4.out.g).1⟩)
  have hl0 : (takeM (takeM m 0 128 0 [1]) 0 128 1 []).ll.getD 0 false = true := by
    have z := H3.out.g.ll
    show ((m.ll.set 0 true).set 1 true).getD 0 false = true
    rw [getD_setB _ _ _ _ (by rw [List.length_set]; omega), if_neg (by decide), getD_setB _ _ _ _ (by omega), if_pos rfl]
  obtain ⟨m5, hm5⟩ : ∃ m5, m5 = takeM (takeM m 0 128 0 [1]) 0 128 1 [] := ⟨_, rfl⟩
  rw [← hm5] at H5 hl0
  clear ha5 hg5 HT2 hm5 H4 H3
  have HT3 := Lib.hid (stake_none H5.out.a H5.out.g)
  unfold sp at HT3
  go_wp2_with fail
  refine HT3.out.mono ?_
  rintro e w6 ⟨rfl, rfl⟩
  have HD := Lib.hid (sdrop_yes H5.out.a H5.out.g (k := 0) (by omega) hl0)
  unfold sp at HD
  go_wp2_with fail
  refine HD.out.mono ?_
  rintro e w7 ⟨rfl, ha7, hg7⟩
  have HB7 := Lib.hid (b_slx HB5.out HNW.out hg7)
  have H7 := Lib.hid (show SlG w7 b (dropM m5 0 128 0) 0 128 2 [] from ⟨ha7, (good_drop H5.out.g (by omega) hl0).1⟩)
  have hq1 : (dropM m5 0 128 0).ll.getD 0 false = false := by
    have z := H5.out.g.ll
    show (m5.ll.set 0 false).getD 0 false = false
    rw [getD_setB _ _ _ _ (by omega), if_pos rfl]
  have hq2 : (dropM m5 0 128 0).hl.getD 0 false = true := by
    have z := H5.out.g.hl
    show (m5.hl.set 0 true).getD 0 false = true
    rw [getD_setB _ _ _ _ (by omega), if_pos rfl]
  clear ha7 hg7 HD HT3 H5
  have HGV := Lib.hid (sgive_yes H7.out.a H7.out.g (k := 0) (by omega) hq1 hq2)
  unfold sp at HGV
  go_wp2_with fail
  refine HGV.out.mono ?_
  rintro e w8 ⟨rfl, ha8, hg8⟩
  have HB8 := Lib.hid (b_slx HB7.out HNW.out hg8)
  have H8 := Lib.hid (show SlG w8 b (giveM (dropM m5 0 128 0) 0 128 0) 0 128 2 [0] from ⟨ha8, (good_give H7.out.g (by omega) hq1 hq2).1⟩)
  clear ha8 hg8 HGV hq1 hq2
  have HT4 := Lib.hid (stake_any H8.out.a H8.out.g)
  unfold sp at HT4
  go_wp2_with fail
  refine HT4.out.mono ?_
  rintro e w9 ⟨rfl, ha9, hg9⟩
  have HB9 := Lib.hid (b_slx HB8.out HNW.out hg9)
  clear ha9 hg9 HT4
  go_wp2_with fail
  go_ret
  exact ⟨rfl, HB9.out⟩
/-- What the law's Make gives back: a pair of a new slab and its arena. -/
def LMk (w : World) (cl : Int) (Z N : Nat) (e : Ending) (w' : World) : Prop := ∃ p rs b m, e = .returned (tp p) ∧ Blk w' p [tp b.ab, sp b.s, tp rs] ∧ SlG w' b m 1 Z N (List.range N) ∧ (m.cl = cl ∧ m.L.length = 768) ∧ slNew w.heap.size b ∧ ¬ slX b p ∧ Below w.heap.size w w'
set_option maxHeartbeats 2000000 in
theorem lmake7 (seed cl c : Int) (s0 : 0 ≤ seed) (s1 : seed < 18446744073709551616) (c0 : 0 ≤ c ∧ c < 256) (hz : ClsOf cl Z N) (w : World) : Calls Try.prog 50 #[.int .u64 seed, .int .i64 cl, .int .u8 c] w (LMk w cl Z N) := by
  have HNA := Lib.hid (fun w => anew_any 3 w)
  rw [show 256 * pagesN 3 = 768 from rfl] at HNA
  have HNL := Lib.hid (fun w => new_any seed s0 s1 w)
  obtain ⟨kk0, kk1⟩ := keyI_bd seed
  obtain ⟨L0, hL0⟩ : ∃ L0, L0 = List.replicate 768 (0 : Int) := ⟨_, rfl⟩
  rw [← hL0] at HNA
  have HL0 : Hid (L0.length = 768) := Lib.hid (by rw [hL0, List.length_replicate])
  obtain ⟨L1, hL1⟩ : ∃ L1, L1 = fillL L0 0 768 c := ⟨_, rfl⟩
  have HL1 : Hid (L1.length = 768) := Lib.hid (by rw [hL1, fillL_length]; exact HL0.out)
  have HFL := Lib.hid (fun w' ab ag ac (h : AreAt w' ab ag ac L0) => afill_any h 0 768 c c0)
  rw [← hL1] at HFL
  have HLD := Lib.hid (fun w' ab ag ac (h : AreAt w' ab ag ac L1) => aload_any h 0 768)
  have hin : inE L1.length 0 768 = 0 := by
    rw [HL1.out]; rfl
  have hld : loadL L1 0 768 = L1 := by
    unfold loadL
    rw [hin, if_pos rfl]
    show (L1.drop 0).take 768 = L1
    rw [List.drop_zero, List.take_of_length_le (by have := HL1.out; omega)]
  rw [hin, hld] at HLD
  generalize keyI seed = key at *
  have HMK := Lib.hid (fun w' ab ag ac (h : AreAt w' ab ag ac L1) => smake_ok (P := 1) h key kk0 kk1 cl 5 hz (by have := HL1.out; omega))
  have HRM := Lib.hid (fun w' g cap (h : RowAt w' g cap L1) => rmake7 h HL1.out hz kk0 kk1)
  obtain ⟨_, _, z2, z16, _⟩ := cls_bd hz
  clear hz hL0 hL1 hin hld
  go_enter Try.func50, Try.ntmps50
  go_wp2_with fail
  refine (HNA.out _).mono ?_
  rintro e w1 ⟨ab, ag, ac, rfl, ha1, n1, n2, hb1⟩
  have HA1 := Lib.hid ha1
  have HB1 := Lib.hid hb1
  have HN1 := Lib.hid (And.intro n1 n2)
  clear ha1 hb1 n1 n2
  have HF1 := Lib.hid (HFL.out w1 ab ag ac HA1.out)
  unfold tp at *
  go_wp2_with fail
  refine HF1.out.mono ?_
  rintro e w2 ⟨rfl, ha2, hg2⟩
  have HA2 := Lib.hid ha2
  have HB2 : Hid (Below w.heap.size w w2) := Lib.hid (b_grown HB1.out hg2 HN1.out.2)
  clear ha2 hg2 HF1
  have HL2 := Lib.hid (HLD.out w2 ab ag ac HA2.out)
  unfold tp at HL2
  go_wp2_with fail
  refine HL2.out.mono ?_
  rintro e w3 ⟨v3, rfl, _, hb3, hrow⟩
  obtain ⟨rg, rc, rfl, hrow3, hrg⟩ := hrow trivial
  have HR3 := Lib.hid hrow3
  have HB3 := Lib.hid (b_call HB2.out hb3)
  have HA3 := Lib.hid (are_below HA2.out hb3)
  have HRG : Hid (w2.heap.size ≤ rg) := Lib.hid hrg
  clear hrow hrow3 hb3 hrg HL2
  unfold rowV
  go_wp2_with fail
  refine (HNL.out _).mono ?_
  rintro e w4 ⟨rfl, hb4⟩
  have HB4 := Lib.hid (b_call HB3.out hb4)
  have HA4 := Lib.hid (are_below HA3.out hb4)
  have HR4 := Lib.hid (row_below HR3.out hb4)
  have HS4 := Lib.hid (hb4.size)
  clear hb4
  go_upto_region 5 with fail
  refine wp_named ?_
  intro w5 hw5
  have HX5 : Hid (Blk w5 w4.heap.size [.int .u64 key]) := Lib.hid (by rw [hw5]; exact blk_new _ _ _)
  have HB45 : Hid (Below w4.heap.size w4 w5) := Lib.hid (by rw [hw5]; exact b_alloc (Below.refl _ _) _)
  have HB5 := Lib.hid (b_call HB4.out HB45.out)
  have HA5 := Lib.hid (are_below HA4.out HB45.out)
  have HR5 := Lib.hid (row_below HR4.out HB45.out)
  have HM5 := Lib.hid (HMK.out w5 ab ag ac HA5.out)
  obtain ⟨k0, _⟩ := blk1 HX5.out
  have kz := HX5.out.1
  clear hw5
  unfold tp at HM5
  go_wp2_with fail
  refine HM5.out.mono ?_
  rintro e w6 ⟨b, m, rfl, ha, hg, ⟨e1, e2, e3⟩, ⟨q1, q2, q3, q4⟩, ⟨o1, o2, o3, o4, o5⟩, hgx⟩
  have H6 := Lib.hid (show SlG w6 b m 1 Z N (List.range N) from ⟨ha, hg⟩)
  have hsz := HB5.out.size
  have HNW : Hid (slNew w.heap.size b) := Lib.hid ⟨⟨by omega, by rw [e2]; exact HN1.out.2⟩, by omega, by omega⟩
  have HB6 : Hid (Below w.heap.size w w6) := Lib.hid (b_gx HB5.out hgx (fun k hk => by rw [hk]; exact HN1.out.2))
  have hag : ag < w2.heap.size := HA2.out.rw.1
  have hab : b.ab = ab := e1
  have hrgag : rg ≠ ag := by have := HRG.out; omega
  have hk4 : w4.heap.size ≠ ag := by
    have := HS4.out
    have := HR3.out.rw.1
    have := HRG.out
    omega
  have HX6 := Lib.hid (blk_gx HX5.out hgx hk4)
  have HR6 : Hid (RowAt w6 rg rc L1) := Lib.hid ⟨blk_gx HR5.out.rw hgx hrgag, HR5.out.le, HR5.out.cp, HR5.out.by_, HR5.out.mx⟩
  have HQ : Hid (m.cl = cl ∧ m.L.length = 768) := Lib.hid ⟨q2, by rw [q4]; exact HL1.out⟩
  have HAB := Lib.hid hab
  obtain ⟨u0, _⟩ := blk1 HX6.out
  have uz := HX6.out.1
  have hl768 : ((L1.length : Int) != 768) = false := by
    have := HL1.out
    rw [this]; rfl
  clear ha hg e1 e2 e3 o1 o2 o3 o4 o5 hgx hsz q1 q2 q3 q4 k0 kz hag hab hrgag hk4 HM5
  unfold sp
  have HRK := Lib.hid (HRM.out w6 rg rc HR6.out)
  unfold rowV at HRK
  go_wp2_with fail
  refine HRK.out.mono ?_
  rintro e w7 ⟨rs, rfl, hb7⟩
  have HB7 := Lib.hid (b_call HB6.out hb7)
  have H7 := Lib.hid (show SlG w7 b m 1 Z N (List.range N) from ⟨sl_below H6.out.a hb7, H6.out.g⟩)
  clear hb7 u0 uz
  go_wp2_with fail
  go_ret
  have hh := H7.out.a.hd.1
  have hh2 := H7.out.a.ar.rw.1
  obtain ⟨W1, l1⟩ := H7.out.a.li
  obtain ⟨W2, l2⟩ := H7.out.a.he
  have hh3 := l1.rw.1
  have hh4 := l2.rw.1
  refine ⟨w7.heap.size, rs, b, m, rfl, ?_, ⟨sl_below H7.out.a (b_alloc (Below.refl _ _) _), H7.out.g⟩, HQ.out, HNW.out, ?_, b_alloc HB7.out _⟩
  · rw [HAB.out]
    exact blk_new _ _ _
  · rintro (q | q | q | q) <;> omega
end Go.Proofs.Ytgbbnmjfkhconaa
