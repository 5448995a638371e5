/- Layer 34: the program's 'one': an instruction of a line's words. Conditions: those stated. -/
import Derived.Test.YtedmjlhgpdeafaaDoorQAsmP
import Derived.Test.YtedmjlhgpdeafaaDoorQCut
namespace Go.Proofs.YtedmjlhgpdeafaaDoor
open Go.RowKit
set_option linter.unusedVariables false
set_option linter.unusedSimpArgs false
/-- Strings, as lists of bytes. -/
def strE : Elt (List UInt8) where
  cells := fun l => [.string ⟨l.toArray⟩]
  size := 1
  pos := by decide
  len := fun _ => rfl
  one := fun r u hu => by
    simp only [List.mem_cons, List.not_mem_nil, or_false] at hu
    rw [hu]; rfl
def OneEnd (a : List UInt8) (r : List (List UInt8)) (e : Ending) : Prop := ∃ o x p q : Int, e = .returned (.tuple #[.agg #[.int .i64 o, .int .u64 x, .int .i64 p, .int .i64 q], .bool (instrL a r).isSome]) ∧ ∀ i, instrL a r = some i → i = ⟨o, x, p, q⟩
theorem shape_of (k : Nat) (κ : Nat) (h : kindOf (k : Int) = κ) (h4 : κ ≠ 4) (w : World) : Calls Tryd.prog 35 #[.int .i64 k] w fun e w' => e = .returned (.tuple #[.int .i64 (if κ = 3 then 2 else if κ = 2 then 1 else 0), .bool (κ == 1), .bool true]) ∧ w = w' := by
  have q := shape_any (k : Int) w
  obtain ⟨h1, h2, h3⟩ := kind_n h
  rw [h1, h2, h3, show (κ != 4) = true by simpa using h4] at q
  exact q
theorem kind37 (k : Nat) (hk : k < 37) : kindOf (k : Int) ≠ 4 := by
  have : ∀ j : Fin 37, kindOf ((j.val : Nat) : Int) ≠ 4 := by decide +kernel
  exact this ⟨k, hk⟩
/-- The ways through 'one', from what 'op' and 'Shape' answer. -/
structure OneAt (w : World) (b o n m cap c1 : Nat) (a : List UInt8) (k : Nat) (okb : Bool) (sn : Int) (sx : Bool) : Prop where
  n1 : 1 ≤ n
  nm : n - 1 = m
  nc : n ≤ cap
  cm : cap ≤ 9223372036854775807
  cc : cap - 1 = c1
  hb : b < w.heap.size
  c0 : w.cell? ⟨b, o, none⟩ = some (.string ⟨a.toArray⟩)
  op : ∀ w, Calls Tryd.prog 102 #[.string ⟨a.toArray⟩] w fun e w' => e = .returned (.tuple #[.int .i64 k, .bool okb]) ∧ Below w.heap.size w w'
  sh : ∀ w, Calls Tryd.prog 35 #[.int .i64 k] w fun e w' => e = .returned (.tuple #[.int .i64 sn, .bool sx, .bool true]) ∧ w = w'
def RetOne (k x p q : Int) (okr : Bool) (w : World) (e : Ending) (w' : World) : Prop := e = .returned (.tuple #[.agg #[.int .i64 k, .int .u64 x, .int .i64 p, .int .i64 q], .bool okr]) ∧ Below w.heap.size w w'
set_option maxRecDepth 100000 in
set_option maxHeartbeats 2000000 in
theorem one_no {w : World} {b o n m cap c1 : Nat} {a : List UInt8} {k : Nat} (h : OneAt w b o n m cap c1 a k false 0 false)  : Calls Tryd.prog 90 #[.slice (some ⟨b, o, none⟩) n cap] w (RetOne k 0 0 0 false w) := by
  by_cases hc1 : cap = 1
  · subst hc1
    have hn1 := h.n1
    have hnm := h.nm
    have hnc := h.nc
    have hcm := h.cm
    have hcc := h.cc
    have hb := h.hb
    have c0 := h.c0
    have HO := Lib.hid h.op
    have HSH := Lib.hid h.sh
    clear h
    go_enter Tryd.func90, Tryd.ntmps90
    go_upto_region 1 with fail
    refine wp_named ?_
    intro W1 hW1
    have HR1 : Hid (Blk W1 w.heap.size [.int .i64 0, .int .u64 0, .int .i64 0, .int .i64 0]) := Lib.hid (by rw [hW1]; exact blk_new _ _ _)
    have HB1 : Hid (Below w.heap.size w W1) := Lib.hid (by rw [hW1]; exact b_alloc (Below.refl _ _) _)
    clear hW1
    have HCC := Lib.hid (fun (w' : World) (hw : Below w.heap.size w w') => (bcell hw).1 b o hb)
    have c0' : W1.cell? ⟨b, o, none⟩ = some (.string ⟨a.toArray⟩) := (HCC.out _ HB1.out).trans c0
    go_wp2_with fail
    refine (HO.out _).mono ?_
    rintro e w2 ⟨rfl, hb2⟩
    have HB2 := Lib.hid (b_call HB1.out hb2)
    have HB12 := Lib.hid hb2
    clear hb2
    go_wp2_with fail
    refine (HSH.out _).mono ?_
    rintro e w3 ⟨rfl, rfl⟩
    go_upto_region 5 with fail
    refine wp_named ?_
    intro W3 hW3
    have HI3 : Hid (Blk W3 w2.heap.size [.int .i64 k, .int .u64 0, .int .i64 0, .int .i64 0]) := Lib.hid (by rw [hW3]; exact blk_new _ _ _)
    have HB3 : Hid (Below w.heap.size w W3) := Lib.hid (by rw [hW3]; exact b_alloc HB2.out _)
    have HR3 : Hid (Blk W3 w.heap.size [.int .i64 0, .int .u64 0, .int .i64 0, .int .i64 0]) := Lib.hid (blk_below HR1.out (by rw [hW3]; exact b_alloc HB12.out _))
    have HNE : Hid (w2.heap.size ≠ w.heap.size) := Lib.hid (by have := HB1.out.size; have := HB12.out.size; have := HR1.out.1; omega)
    have hs23 : w2.heap.size < W3.heap.size := HI3.out.1
    clear hW3 c0'
    obtain ⟨i0, i1, i2, i3, jf⟩ := blk4 HI3.out
    have iz := HI3.out.1
    obtain ⟨r0, r1, r2, r3, rf⟩ := blk4 HR3.out
    have rz := HR3.out.1
    go_wp2_with fail
    refine post_named ?_
    intro wF hwF
    have BF : Blk wF w.heap.size [.int .i64 k, .int .u64 0, .int .i64 0, .int .i64 0] := by rw [hwF]; exact blk_set (blk_set (blk_set (blk_set HR3.out 0 _) 1 _) 2 _) 3 _
    have FB : Below w.heap.size w wF := by rw [hwF]; exact b_set (b_set (b_set (b_set HB3.out (Nat.le_refl _) _) (Nat.le_refl _) _) (Nat.le_refl _) _) (Nat.le_refl _) _
    clear hwF
    obtain ⟨q0, q1, q2, q3, _⟩ := blk4 BF
    exact bodyPost_ret (v := .tuple #[.agg #[.int .i64 k, .int .u64 0, .int .i64 0, .int .i64 0], .bool false]) (by simp [results, Tryd.results90, go_sem, q0, q1, q2, q3]) rfl ⟨rfl, FB⟩
  · skip
    have hn1 := h.n1
    have hnm := h.nm
    have hnc := h.nc
    have hcm := h.cm
    have hcc := h.cc
    have hb := h.hb
    have c0 := h.c0
    have HO := Lib.hid h.op
    have HSH := Lib.hid h.sh
    clear h
    go_enter Tryd.func90, Tryd.ntmps90
    go_upto_region 1 with fail
    refine wp_named ?_
    intro W1 hW1
    have HR1 : Hid (Blk W1 w.heap.size [.int .i64 0, .int .u64 0, .int .i64 0, .int .i64 0]) := Lib.hid (by rw [hW1]; exact blk_new _ _ _)
    have HB1 : Hid (Below w.heap.size w W1) := Lib.hid (by rw [hW1]; exact b_alloc (Below.refl _ _) _)
    clear hW1
    have HCC := Lib.hid (fun (w' : World) (hw : Below w.heap.size w w') => (bcell hw).1 b o hb)
    have c0' : W1.cell? ⟨b, o, none⟩ = some (.string ⟨a.toArray⟩) := (HCC.out _ HB1.out).trans c0
    go_wp2_with fail
    refine (HO.out _).mono ?_
    rintro e w2 ⟨rfl, hb2⟩
    have HB2 := Lib.hid (b_call HB1.out hb2)
    have HB12 := Lib.hid hb2
    clear hb2
    go_wp2_with fail
    refine (HSH.out _).mono ?_
    rintro e w3 ⟨rfl, rfl⟩
    go_upto_region 5 with fail
    refine wp_named ?_
    intro W3 hW3
    have HI3 : Hid (Blk W3 w2.heap.size [.int .i64 k, .int .u64 0, .int .i64 0, .int .i64 0]) := Lib.hid (by rw [hW3]; exact blk_new _ _ _)
    have HB3 : Hid (Below w.heap.size w W3) := Lib.hid (by rw [hW3]; exact b_alloc HB2.out _)
    have HR3 : Hid (Blk W3 w.heap.size [.int .i64 0, .int .u64 0, .int .i64 0, .int .i64 0]) := Lib.hid (blk_below HR1.out (by rw [hW3]; exact b_alloc HB12.out _))
    have HNE : Hid (w2.heap.size ≠ w.heap.size) := Lib.hid (by have := HB1.out.size; have := HB12.out.size; have := HR1.out.1; omega)
    have hs23 : w2.heap.size < W3.heap.size := HI3.out.1
    clear hW3 c0'
    obtain ⟨i0, i1, i2, i3, jf⟩ := blk4 HI3.out
    have iz := HI3.out.1
    obtain ⟨r0, r1, r2, r3, rf⟩ := blk4 HR3.out
    have rz := HR3.out.1
    go_wp2_with fail
    refine post_named ?_
    intro wF hwF
    have BF : Blk wF w.heap.size [.int .i64 k, .int .u64 0, .int .i64 0, .int .i64 0] := by rw [hwF]; exact blk_set (blk_set (blk_set (blk_set HR3.out 0 _) 1 _) 2 _) 3 _
    have FB : Below w.heap.size w wF := by rw [hwF]; exact b_set (b_set (b_set (b_set HB3.out (Nat.le_refl _) _) (Nat.le_refl _) _) (Nat.le_refl _) _) (Nat.le_refl _) _
    clear hwF
    obtain ⟨q0, q1, q2, q3, _⟩ := blk4 BF
    exact bodyPost_ret (v := .tuple #[.agg #[.int .i64 k, .int .u64 0, .int .i64 0, .int .i64 0], .bool false]) (by simp [results, Tryd.results90, go_sem, q0, q1, q2, q3]) rfl ⟨rfl, FB⟩
set_option maxRecDepth 100000 in
set_option maxHeartbeats 2000000 in
theorem one_len {w : World} {b o n m cap c1 : Nat} {a : List UInt8} {k : Nat} {sn : Int} (h : OneAt w b o n m cap c1 a k true sn false) (s : Nat) (hs : sn = s) (hne : ((m : Int) != s) = true) : Calls Tryd.prog 90 #[.slice (some ⟨b, o, none⟩) n cap] w (RetOne k 0 0 0 false w) := by
  subst hs
  by_cases hc1 : cap = 1
  · subst hc1
    have hn1 := h.n1
    have hnm := h.nm
    have hnc := h.nc
    have hcm := h.cm
    have hcc := h.cc
    have hb := h.hb
    have c0 := h.c0
    have HO := Lib.hid h.op
    have HSH := Lib.hid h.sh
    clear h
    go_enter Tryd.func90, Tryd.ntmps90
    go_upto_region 1 with fail
    refine wp_named ?_
    intro W1 hW1
    have HR1 : Hid (Blk W1 w.heap.size [.int .i64 0, .int .u64 0, .int .i64 0, .int .i64 0]) := Lib.hid (by rw [hW1]; exact blk_new _ _ _)
    have HB1 : Hid (Below w.heap.size w W1) := Lib.hid (by rw [hW1]; exact b_alloc (Below.refl _ _) _)
    clear hW1
    have HCC := Lib.hid (fun (w' : World) (hw : Below w.heap.size w w') => (bcell hw).1 b o hb)
    have c0' : W1.cell? ⟨b, o, none⟩ = some (.string ⟨a.toArray⟩) := (HCC.out _ HB1.out).trans c0
    go_wp2_with fail
    refine (HO.out _).mono ?_
    rintro e w2 ⟨rfl, hb2⟩
    have HB2 := Lib.hid (b_call HB1.out hb2)
    have HB12 := Lib.hid hb2
    clear hb2
    go_wp2_with fail
    refine (HSH.out _).mono ?_
    rintro e w3 ⟨rfl, rfl⟩
    go_upto_region 5 with fail
    refine wp_named ?_
    intro W3 hW3
    have HI3 : Hid (Blk W3 w2.heap.size [.int .i64 k, .int .u64 0, .int .i64 0, .int .i64 0]) := Lib.hid (by rw [hW3]; exact blk_new _ _ _)
    have HB3 : Hid (Below w.heap.size w W3) := Lib.hid (by rw [hW3]; exact b_alloc HB2.out _)
    have HR3 : Hid (Blk W3 w.heap.size [.int .i64 0, .int .u64 0, .int .i64 0, .int .i64 0]) := Lib.hid (blk_below HR1.out (by rw [hW3]; exact b_alloc HB12.out _))
    have HNE : Hid (w2.heap.size ≠ w.heap.size) := Lib.hid (by have := HB1.out.size; have := HB12.out.size; have := HR1.out.1; omega)
    have hs23 : w2.heap.size < W3.heap.size := HI3.out.1
    clear hW3 c0'
    obtain ⟨i0, i1, i2, i3, jf⟩ := blk4 HI3.out
    have iz := HI3.out.1
    obtain ⟨r0, r1, r2, r3, rf⟩ := blk4 HR3.out
    have rz := HR3.out.1
    go_wp2_with fail
    refine post_named ?_
    intro wF hwF
    have BF : Blk wF w.heap.size [.int .i64 k, .int .u64 0, .int .i64 0, .int .i64 0] := by rw [hwF]; exact blk_set (blk_set (blk_set (blk_set HR3.out 0 _) 1 _) 2 _) 3 _
    have FB : Below w.heap.size w wF := by rw [hwF]; exact b_set (b_set (b_set (b_set HB3.out (Nat.le_refl _) _) (Nat.le_refl _) _) (Nat.le_refl _) _) (Nat.le_refl _) _
    clear hwF
    obtain ⟨q0, q1, q2, q3, _⟩ := blk4 BF
    exact bodyPost_ret (v := .tuple #[.agg #[.int .i64 k, .int .u64 0, .int .i64 0, .int .i64 0], .bool false]) (by simp [results, Tryd.results90, go_sem, q0, q1, q2, q3]) rfl ⟨rfl, FB⟩
  · skip
    have hn1 := h.n1
    have hnm := h.nm
    have hnc := h.nc
    have hcm := h.cm
    have hcc := h.cc
    have hb := h.hb
    have c0 := h.c0
    have HO := Lib.hid h.op
    have HSH := Lib.hid h.sh
    clear h
    go_enter Tryd.func90, Tryd.ntmps90
    go_upto_region 1 with fail
    refine wp_named ?_
    intro W1 hW1
    have HR1 : Hid (Blk W1 w.heap.size [.int .i64 0, .int .u64 0, .int .i64 0, .int .i64 0]) := Lib.hid (by rw [hW1]; exact blk_new _ _ _)
    have HB1 : Hid (Below w.heap.size w W1) := Lib.hid (by rw [hW1]; exact b_alloc (Below.refl _ _) _)
    clear hW1
    have HCC := Lib.hid (fun (w' : World) (hw : Below w.heap.size w w') => (bcell hw).1 b o hb)
    have c0' : W1.cell? ⟨b, o, none⟩ = some (.string ⟨a.toArray⟩) := (HCC.out _ HB1.out).trans c0
    go_wp2_with fail
    refine (HO.out _).mono ?_
    rintro e w2 ⟨rfl, hb2⟩
    have HB2 := Lib.hid (b_call HB1.out hb2)
    have HB12 := Lib.hid hb2
    clear hb2
    go_wp2_with fail
    refine (HSH.out _).mono ?_
    rintro e w3 ⟨rfl, rfl⟩
    go_upto_region 5 with fail
    refine wp_named ?_
    intro W3 hW3
    have HI3 : Hid (Blk W3 w2.heap.size [.int .i64 k, .int .u64 0, .int .i64 0, .int .i64 0]) := Lib.hid (by rw [hW3]; exact blk_new _ _ _)
    have HB3 : Hid (Below w.heap.size w W3) := Lib.hid (by rw [hW3]; exact b_alloc HB2.out _)
    have HR3 : Hid (Blk W3 w.heap.size [.int .i64 0, .int .u64 0, .int .i64 0, .int .i64 0]) := Lib.hid (blk_below HR1.out (by rw [hW3]; exact b_alloc HB12.out _))
    have HNE : Hid (w2.heap.size ≠ w.heap.size) := Lib.hid (by have := HB1.out.size; have := HB12.out.size; have := HR1.out.1; omega)
    have hs23 : w2.heap.size < W3.heap.size := HI3.out.1
    clear hW3 c0'
    obtain ⟨i0, i1, i2, i3, jf⟩ := blk4 HI3.out
    have iz := HI3.out.1
    obtain ⟨r0, r1, r2, r3, rf⟩ := blk4 HR3.out
    have rz := HR3.out.1
    go_wp2_with fail
    refine post_named ?_
    intro wF hwF
    have BF : Blk wF w.heap.size [.int .i64 k, .int .u64 0, .int .i64 0, .int .i64 0] := by rw [hwF]; exact blk_set (blk_set (blk_set (blk_set HR3.out 0 _) 1 _) 2 _) 3 _
    have FB : Below w.heap.size w wF := by rw [hwF]; exact b_set (b_set (b_set (b_set HB3.out (Nat.le_refl _) _) (Nat.le_refl _) _) (Nat.le_refl _) _) (Nat.le_refl _) _
    clear hwF
    obtain ⟨q0, q1, q2, q3, _⟩ := blk4 BF
    exact bodyPost_ret (v := .tuple #[.agg #[.int .i64 k, .int .u64 0, .int .i64 0, .int .i64 0], .bool false]) (by simp [results, Tryd.results90, go_sem, q0, q1, q2, q3]) rfl ⟨rfl, FB⟩
set_option maxRecDepth 100000 in
set_option maxHeartbeats 2000000 in
theorem one_0 {w : World} {b o n m cap c1 : Nat} {a : List UInt8} {k : Nat} (h : OneAt w b o n m cap c1 a k true 0 false) (hne : m = 0) : Calls Tryd.prog 90 #[.slice (some ⟨b, o, none⟩) n cap] w (RetOne k 0 0 0 true w) := by
  subst hne
  by_cases hc1 : cap = 1
  · subst hc1
    have hn1 := h.n1
    have hnm := h.nm
    have hnc := h.nc
    have hcm := h.cm
    have hcc := h.cc
    have hb := h.hb
    have c0 := h.c0
    have HO := Lib.hid h.op
    have HSH := Lib.hid h.sh
    clear h
    go_enter Tryd.func90, Tryd.ntmps90
    go_upto_region 1 with fail
    refine wp_named ?_
    intro W1 hW1
    have HR1 : Hid (Blk W1 w.heap.size [.int .i64 0, .int .u64 0, .int .i64 0, .int .i64 0]) := Lib.hid (by rw [hW1]; exact blk_new _ _ _)
    have HB1 : Hid (Below w.heap.size w W1) := Lib.hid (by rw [hW1]; exact b_alloc (Below.refl _ _) _)
    clear hW1
    have HCC := Lib.hid (fun (w' : World) (hw : Below w.heap.size w w') => (bcell hw).1 b o hb)
    have c0' : W1.cell? ⟨b, o, none⟩ = some (.string ⟨a.toArray⟩) := (HCC.out _ HB1.out).trans c0
    go_wp2_with fail
    refine (HO.out _).mono ?_
    rintro e w2 ⟨rfl, hb2⟩
    have HB2 := Lib.hid (b_call HB1.out hb2)
    have HB12 := Lib.hid hb2
    clear hb2
    go_wp2_with fail
    refine (HSH.out _).mono ?_
    rintro e w3 ⟨rfl, rfl⟩
    go_upto_region 5 with fail
    refine wp_named ?_
    intro W3 hW3
    have HI3 : Hid (Blk W3 w2.heap.size [.int .i64 k, .int .u64 0, .int .i64 0, .int .i64 0]) := Lib.hid (by rw [hW3]; exact blk_new _ _ _)
    have HB3 : Hid (Below w.heap.size w W3) := Lib.hid (by rw [hW3]; exact b_alloc HB2.out _)
    have HR3 : Hid (Blk W3 w.heap.size [.int .i64 0, .int .u64 0, .int .i64 0, .int .i64 0]) := Lib.hid (blk_below HR1.out (by rw [hW3]; exact b_alloc HB12.out _))
    have HNE : Hid (w2.heap.size ≠ w.heap.size) := Lib.hid (by have := HB1.out.size; have := HB12.out.size; have := HR1.out.1; omega)
    have hs23 : w2.heap.size < W3.heap.size := HI3.out.1
    clear hW3 c0'
    obtain ⟨i0, i1, i2, i3, jf⟩ := blk4 HI3.out
    have iz := HI3.out.1
    obtain ⟨r0, r1, r2, r3, rf⟩ := blk4 HR3.out
    have rz := HR3.out.1
    go_wp2_with fail
    refine post_named ?_
    intro wF hwF
    have BF : Blk wF w.heap.size [.int .i64 k, .int .u64 0, .int .i64 0, .int .i64 0] := by rw [hwF]; exact blk_set (blk_set (blk_set (blk_set HR3.out 0 _) 1 _) 2 _) 3 _
    have FB : Below w.heap.size w wF := by rw [hwF]; exact b_set (b_set (b_set (b_set HB3.out (Nat.le_refl _) _) (Nat.le_refl _) _) (Nat.le_refl _) _) (Nat.le_refl _) _
    clear hwF
    obtain ⟨q0, q1, q2, q3, _⟩ := blk4 BF
    exact bodyPost_ret (v := .tuple #[.agg #[.int .i64 k, .int .u64 0, .int .i64 0, .int .i64 0], .bool true]) (by simp [results, Tryd.results90, go_sem, q0, q1, q2, q3]) rfl ⟨rfl, FB⟩
  · skip
    have hn1 := h.n1
    have hnm := h.nm
    have hnc := h.nc
    have hcm := h.cm
    have hcc := h.cc
    have hb := h.hb
    have c0 := h.c0
    have HO := Lib.hid h.op
    have HSH := Lib.hid h.sh
    clear h
    go_enter Tryd.func90, Tryd.ntmps90
    go_upto_region 1 with fail
    refine wp_named ?_
    intro W1 hW1
    have HR1 : Hid (Blk W1 w.heap.size [.int .i64 0, .int .u64 0, .int .i64 0, .int .i64 0]) := Lib.hid (by rw [hW1]; exact blk_new _ _ _)
    have HB1 : Hid (Below w.heap.size w W1) := Lib.hid (by rw [hW1]; exact b_alloc (Below.refl _ _) _)
    clear hW1
    have HCC := Lib.hid (fun (w' : World) (hw : Below w.heap.size w w') => (bcell hw).1 b o hb)
    have c0' : W1.cell? ⟨b, o, none⟩ = some (.string ⟨a.toArray⟩) := (HCC.out _ HB1.out).trans c0
    go_wp2_with fail
    refine (HO.out _).mono ?_
    rintro e w2 ⟨rfl, hb2⟩
    have HB2 := Lib.hid (b_call HB1.out hb2)
    have HB12 := Lib.hid hb2
    clear hb2
    go_wp2_with fail
    refine (HSH.out _).mono ?_
    rintro e w3 ⟨rfl, rfl⟩
    go_upto_region 5 with fail
    refine wp_named ?_
    intro W3 hW3
    have HI3 : Hid (Blk W3 w2.heap.size [.int .i64 k, .int .u64 0, .int .i64 0, .int .i64 0]) := Lib.hid (by rw [hW3]; exact blk_new _ _ _)
    have HB3 : Hid (Below w.heap.size w W3) := Lib.hid (by rw [hW3]; exact b_alloc HB2.out _)
    have HR3 : Hid (Blk W3 w.heap.size [.int .i64 0, .int .u64 0, .int .i64 0, .int .i64 0]) := Lib.hid (blk_below HR1.out (by rw [hW3]; exact b_alloc HB12.out _))
    have HNE : Hid (w2.heap.size ≠ w.heap.size) := Lib.hid (by have := HB1.out.size; have := HB12.out.size; have := HR1.out.1; omega)
    have hs23 : w2.heap.size < W3.heap.size := HI3.out.1
    clear hW3 c0'
    obtain ⟨i0, i1, i2, i3, jf⟩ := blk4 HI3.out
    have iz := HI3.out.1
    obtain ⟨r0, r1, r2, r3, rf⟩ := blk4 HR3.out
    have rz := HR3.out.1
    go_wp2_with fail
    refine post_named ?_
    intro wF hwF
    have BF : Blk wF w.heap.size [.int .i64 k, .int .u64 0, .int .i64 0, .int .i64 0] := by rw [hwF]; exact blk_set (blk_set (blk_set (blk_set HR3.out 0 _) 1 _) 2 _) 3 _
    have FB : Below w.heap.size w wF := by rw [hwF]; exact b_set (b_set (b_set (b_set HB3.out (Nat.le_refl _) _) (Nat.le_refl _) _) (Nat.le_refl _) _) (Nat.le_refl _) _
    clear hwF
    obtain ⟨q0, q1, q2, q3, _⟩ := blk4 BF
    exact bodyPost_ret (v := .tuple #[.agg #[.int .i64 k, .int .u64 0, .int .i64 0, .int .i64 0], .bool true]) (by simp [results, Tryd.results90, go_sem, q0, q1, q2, q3]) rfl ⟨rfl, FB⟩
set_option maxRecDepth 100000 in
set_option maxHeartbeats 2000000 in
theorem one_x0 {w : World} {b o n m cap c1 : Nat} {a : List UInt8} {k : Nat} (h : OneAt w b o n m cap c1 a k true 0 true) (hne : m = 0) : Calls Tryd.prog 90 #[.slice (some ⟨b, o, none⟩) n cap] w (RetOne k 0 0 0 false w) := by
  subst hne
  by_cases hc1 : cap = 1
  · subst hc1
    have hn1 := h.n1
    have hnm := h.nm
    have hnc := h.nc
    have hcm := h.cm
    have hcc := h.cc
    have hb := h.hb
    have c0 := h.c0
    have HO := Lib.hid h.op
    have HSH := Lib.hid h.sh
    clear h
    go_enter Tryd.func90, Tryd.ntmps90
    go_upto_region 1 with fail
    refine wp_named ?_
    intro W1 hW1
    have HR1 : Hid (Blk W1 w.heap.size [.int .i64 0, .int .u64 0, .int .i64 0, .int .i64 0]) := Lib.hid (by rw [hW1]; exact blk_new _ _ _)
    have HB1 : Hid (Below w.heap.size w W1) := Lib.hid (by rw [hW1]; exact b_alloc (Below.refl _ _) _)
    clear hW1
    have HCC := Lib.hid (fun (w' : World) (hw : Below w.heap.size w w') => (bcell hw).1 b o hb)
    have c0' : W1.cell? ⟨b, o, none⟩ = some (.string ⟨a.toArray⟩) := (HCC.out _ HB1.out).trans c0
    go_wp2_with fail
    refine (HO.out _).mono ?_
    rintro e w2 ⟨rfl, hb2⟩
    have HB2 := Lib.hid (b_call HB1.out hb2)
    have HB12 := Lib.hid hb2
    clear hb2
    go_wp2_with fail
    refine (HSH.out _).mono ?_
    rintro e w3 ⟨rfl, rfl⟩
    go_upto_region 5 with fail
    refine wp_named ?_
    intro W3 hW3
    have HI3 : Hid (Blk W3 w2.heap.size [.int .i64 k, .int .u64 0, .int .i64 0, .int .i64 0]) := Lib.hid (by rw [hW3]; exact blk_new _ _ _)
    have HB3 : Hid (Below w.heap.size w W3) := Lib.hid (by rw [hW3]; exact b_alloc HB2.out _)
    have HR3 : Hid (Blk W3 w.heap.size [.int .i64 0, .int .u64 0, .int .i64 0, .int .i64 0]) := Lib.hid (blk_below HR1.out (by rw [hW3]; exact b_alloc HB12.out _))
    have HNE : Hid (w2.heap.size ≠ w.heap.size) := Lib.hid (by have := HB1.out.size; have := HB12.out.size; have := HR1.out.1; omega)
    have hs23 : w2.heap.size < W3.heap.size := HI3.out.1
    clear hW3 c0'
    obtain ⟨i0, i1, i2, i3, jf⟩ := blk4 HI3.out
    have iz := HI3.out.1
    obtain ⟨r0, r1, r2, r3, rf⟩ := blk4 HR3.out
    have rz := HR3.out.1
    go_wp2_with fail
    refine post_named ?_
    intro wF hwF
    have BF : Blk wF w.heap.size [.int .i64 k, .int .u64 0, .int .i64 0, .int .i64 0] := by rw [hwF]; exact blk_set (blk_set (blk_set (blk_set HR3.out 0 _) 1 _) 2 _) 3 _
    have FB : Below w.heap.size w wF := by rw [hwF]; exact b_set (b_set (b_set (b_set HB3.out (Nat.le_refl _) _) (Nat.le_refl _) _) (Nat.le_refl _) _) (Nat.le_refl _) _
    clear hwF
    obtain ⟨q0, q1, q2, q3, _⟩ := blk4 BF
    exact bodyPost_ret (v := .tuple #[.agg #[.int .i64 k, .int .u64 0, .int .i64 0, .int .i64 0], .bool false]) (by simp [results, Tryd.results90, go_sem, q0, q1, q2, q3]) rfl ⟨rfl, FB⟩
  · skip
    have hn1 := h.n1
    have hnm := h.nm
    have hnc := h.nc
    have hcm := h.cm
    have hcc := h.cc
    have hb := h.hb
    have c0 := h.c0
    have HO := Lib.hid h.op
    have HSH := Lib.hid h.sh
    clear h
    go_enter Tryd.func90, Tryd.ntmps90
    go_upto_region 1 with fail
    refine wp_named ?_
    intro W1 hW1
    have HR1 : Hid (Blk W1 w.heap.size [.int .i64 0, .int .u64 0, .int .i64 0, .int .i64 0]) := Lib.hid (by rw [hW1]; exact blk_new _ _ _)
    have HB1 : Hid (Below w.heap.size w W1) := Lib.hid (by rw [hW1]; exact b_alloc (Below.refl _ _) _)
    clear hW1
    have HCC := Lib.hid (fun (w' : World) (hw : Below w.heap.size w w') => (bcell hw).1 b o hb)
    have c0' : W1.cell? ⟨b, o, none⟩ = some (.string ⟨a.toArray⟩) := (HCC.out _ HB1.out).trans c0
    go_wp2_with fail
    refine (HO.out _).mono ?_
    rintro e w2 ⟨rfl, hb2⟩
    have HB2 := Lib.hid (b_call HB1.out hb2)
    have HB12 := Lib.hid hb2
    clear hb2
    go_wp2_with fail
    refine (HSH.out _).mono ?_
    rintro e w3 ⟨rfl, rfl⟩
    go_upto_region 5 with fail
    refine wp_named ?_
    intro W3 hW3
    have HI3 : Hid (Blk W3 w2.heap.size [.int .i64 k, .int .u64 0, .int .i64 0, .int .i64 0]) := Lib.hid (by rw [hW3]; exact blk_new _ _ _)
    have HB3 : Hid (Below w.heap.size w W3) := Lib.hid (by rw [hW3]; exact b_alloc HB2.out _)
    have HR3 : Hid (Blk W3 w.heap.size [.int .i64 0, .int .u64 0, .int .i64 0, .int .i64 0]) := Lib.hid (blk_below HR1.out (by rw [hW3]; exact b_alloc HB12.out _))
    have HNE : Hid (w2.heap.size ≠ w.heap.size) := Lib.hid (by have := HB1.out.size; have := HB12.out.size; have := HR1.out.1; omega)
    have hs23 : w2.heap.size < W3.heap.size := HI3.out.1
    clear hW3 c0'
    obtain ⟨i0, i1, i2, i3, jf⟩ := blk4 HI3.out
    have iz := HI3.out.1
    obtain ⟨r0, r1, r2, r3, rf⟩ := blk4 HR3.out
    have rz := HR3.out.1
    go_wp2_with fail
    refine post_named ?_
    intro wF hwF
    have BF : Blk wF w.heap.size [.int .i64 k, .int .u64 0, .int .i64 0, .int .i64 0] := by rw [hwF]; exact blk_set (blk_set (blk_set (blk_set HR3.out 0 _) 1 _) 2 _) 3 _
    have FB : Below w.heap.size w wF := by rw [hwF]; exact b_set (b_set (b_set (b_set HB3.out (Nat.le_refl _) _) (Nat.le_refl _) _) (Nat.le_refl _) _) (Nat.le_refl _) _
    clear hwF
    obtain ⟨q0, q1, q2, q3, _⟩ := blk4 BF
    exact bodyPost_ret (v := .tuple #[.agg #[.int .i64 k, .int .u64 0, .int .i64 0, .int .i64 0], .bool false]) (by simp [results, Tryd.results90, go_sem, q0, q1, q2, q3]) rfl ⟨rfl, FB⟩
set_option maxRecDepth 100000 in
set_option maxHeartbeats 2000000 in
theorem one_xbad {w : World} {b o n m cap c1 : Nat} {a : List UInt8} {k : Nat} (h : OneAt w b o n m cap c1 a k true 0 true) {y : List UInt8} (hy : y.length ≤ 1000000) (c1x : w.cell? ⟨b, o + 1, none⟩ = some (.string ⟨y.toArray⟩)) (hm1 : 1 ≤ m) (hv : (bitsL y).isSome = false) : Calls Tryd.prog 90 #[.slice (some ⟨b, o, none⟩) n cap] w fun e w' => ∃ x : Int, RetOne k x 0 0 false w e w' ∧ ∀ v, bitsL y = some v → x = v := by
  have HNU := Lib.hid (fun w => anumber_any y w hy)
  unfold strV at HNU
  have hcx : cap ≠ 1 := by have := h.nm; have := h.nc; omega
  have hmc : m ≤ c1 := by have := h.nm; have := h.nc; have := h.cc; omega
  have hn1 := h.n1
  have hnm := h.nm
  have hnc := h.nc
  have hcm := h.cm
  have hcc := h.cc
  have hb := h.hb
  have c0 := h.c0
  have HO := Lib.hid h.op
  have HSH := Lib.hid h.sh
  clear h
  go_enter Tryd.func90, Tryd.ntmps90
  go_upto_region 1 with fail
  refine wp_named ?_
  intro W1 hW1
  have HR1 : Hid (Blk W1 w.heap.size [.int .i64 0, .int .u64 0, .int .i64 0, .int .i64 0]) := Lib.hid (by rw [hW1]; exact blk_new _ _ _)
  have HB1 : Hid (Below w.heap.size w W1) := Lib.hid (by rw [hW1]; exact b_alloc (Below.refl _ _) _)
  clear hW1
  have HCC := Lib.hid (fun (w' : World) (hw : Below w.heap.size w w') => (bcell hw).1 b o hb)
  have c0' : W1.cell? ⟨b, o, none⟩ = some (.string ⟨a.toArray⟩) := (HCC.out _ HB1.out).trans c0
  go_wp2_with fail
  refine (HO.out _).mono ?_
  rintro e w2 ⟨rfl, hb2⟩
  have HB2 := Lib.hid (b_call HB1.out hb2)
  have HB12 := Lib.hid hb2
  clear hb2
  go_wp2_with fail
  refine (HSH.out _).mono ?_
  rintro e w3 ⟨rfl, rfl⟩
  go_upto_region 5 with fail
  refine wp_named ?_
  intro W3 hW3
  have HI3 : Hid (Blk W3 w2.heap.size [.int .i64 k, .int .u64 0, .int .i64 0, .int .i64 0]) := Lib.hid (by rw [hW3]; exact blk_new _ _ _)
  have HB3 : Hid (Below w.heap.size w W3) := Lib.hid (by rw [hW3]; exact b_alloc HB2.out _)
  have HR3 : Hid (Blk W3 w.heap.size [.int .i64 0, .int .u64 0, .int .i64 0, .int .i64 0]) := Lib.hid (blk_below HR1.out (by rw [hW3]; exact b_alloc HB12.out _))
  have HNE : Hid (w2.heap.size ≠ w.heap.size) := Lib.hid (by have := HB1.out.size; have := HB12.out.size; have := HR1.out.1; omega)
  have hs23 : w2.heap.size < W3.heap.size := HI3.out.1
  clear hW3 c0'
  have c1' : W3.cell? ⟨b, o + 1, none⟩ = some (.string ⟨y.toArray⟩) := ((bcell HB3.out).1 b (o + 1) hb).trans c1x
  have hb3 : b < W3.heap.size := by have := HB3.out.size; omega
  by_cases hc2 : c1 = 1
  · subst hc2
    obtain ⟨i0, i1, i2, i3, jf⟩ := blk4 HI3.out
    have iz := HI3.out.1
    obtain ⟨r0, r1, r2, r3, rf⟩ := blk4 HR3.out
    have rz := HR3.out.1
    go_wp2_with fail
    refine (HNU.out _).mono ?_
    rintro e w4 ⟨⟨x, rfl, hx⟩, rfl⟩
    go_upto_region 7 with fail
    refine wp_named ?_
    intro W4 hW4
    have HI4 : Hid (Blk W4 w2.heap.size [.int .i64 k, .int .u64 x, .int .i64 0, .int .i64 0]) := Lib.hid (by rw [hW4]; exact blk_set HI3.out 1 _)
    have HR4 : Hid (Blk W4 w.heap.size [.int .i64 0, .int .u64 0, .int .i64 0, .int .i64 0]) := Lib.hid (by rw [hW4]; exact blk_other HR3.out HNE.out _)
    have HB4 : Hid (Below w.heap.size w W4) := Lib.hid (by rw [hW4]; exact b_set HB3.out (by have := HB2.out.size; omega) _)
    clear hW4 i0 i1 i2 i3 jf iz r0 r1 r2 r3 rf rz c1'
    obtain ⟨i0, i1, i2, i3, jf⟩ := blk4 HI4.out
    have iz := HI4.out.1
    obtain ⟨r0, r1, r2, r3, rf⟩ := blk4 HR4.out
    have rz := HR4.out.1
    go_wp2_with fail
    refine post_named ?_
    intro wF hwF
    have BF : Blk wF w.heap.size [.int .i64 k, .int .u64 x, .int .i64 0, .int .i64 0] := by rw [hwF]; exact blk_set (blk_set (blk_set (blk_set HR4.out 0 _) 1 _) 2 _) 3 _
    have FB : Below w.heap.size w wF := by rw [hwF]; exact b_set (b_set (b_set (b_set HB4.out (Nat.le_refl _) _) (Nat.le_refl _) _) (Nat.le_refl _) _) (Nat.le_refl _) _
    clear hwF
    obtain ⟨q0, q1, q2, q3, _⟩ := blk4 BF
    exact bodyPost_ret (v := .tuple #[.agg #[.int .i64 k, .int .u64 x, .int .i64 0, .int .i64 0], .bool false]) (by simp [results, Tryd.results90, go_sem, q0, q1, q2, q3]) rfl ⟨x, ⟨rfl, FB⟩, hx⟩
  · skip
    obtain ⟨i0, i1, i2, i3, jf⟩ := blk4 HI3.out
    have iz := HI3.out.1
    obtain ⟨r0, r1, r2, r3, rf⟩ := blk4 HR3.out
    have rz := HR3.out.1
    go_wp2_with fail
    refine (HNU.out _).mono ?_
    rintro e w4 ⟨⟨x, rfl, hx⟩, rfl⟩
    go_upto_region 7 with fail
    refine wp_named ?_
    intro W4 hW4
    have HI4 : Hid (Blk W4 w2.heap.size [.int .i64 k, .int .u64 x, .int .i64 0, .int .i64 0]) := Lib.hid (by rw [hW4]; exact blk_set HI3.out 1 _)
    have HR4 : Hid (Blk W4 w.heap.size [.int .i64 0, .int .u64 0, .int .i64 0, .int .i64 0]) := Lib.hid (by rw [hW4]; exact blk_other HR3.out HNE.out _)
    have HB4 : Hid (Below w.heap.size w W4) := Lib.hid (by rw [hW4]; exact b_set HB3.out (by have := HB2.out.size; omega) _)
    clear hW4 i0 i1 i2 i3 jf iz r0 r1 r2 r3 rf rz c1'
    obtain ⟨i0, i1, i2, i3, jf⟩ := blk4 HI4.out
    have iz := HI4.out.1
    obtain ⟨r0, r1, r2, r3, rf⟩ := blk4 HR4.out
    have rz := HR4.out.1
    go_wp2_with fail
    refine post_named ?_
    intro wF hwF
    have BF : Blk wF w.heap.size [.int .i64 k, .int .u64 x, .int .i64 0, .int .i64 0] := by rw [hwF]; exact blk_set (blk_set (blk_set (blk_set HR4.out 0 _) 1 _) 2 _) 3 _
    have FB : Below w.heap.size w wF := by rw [hwF]; exact b_set (b_set (b_set (b_set HB4.out (Nat.le_refl _) _) (Nat.le_refl _) _) (Nat.le_refl _) _) (Nat.le_refl _) _
    clear hwF
    obtain ⟨q0, q1, q2, q3, _⟩ := blk4 BF
    exact bodyPost_ret (v := .tuple #[.agg #[.int .i64 k, .int .u64 x, .int .i64 0, .int .i64 0], .bool false]) (by simp [results, Tryd.results90, go_sem, q0, q1, q2, q3]) rfl ⟨x, ⟨rfl, FB⟩, hx⟩
set_option maxRecDepth 100000 in
set_option maxHeartbeats 2000000 in
theorem one_xmore {w : World} {b o n m cap c1 : Nat} {a : List UInt8} {k : Nat} (h : OneAt w b o n m cap c1 a k true 0 true) {y : List UInt8} (hy : y.length ≤ 1000000) (c1x : w.cell? ⟨b, o + 1, none⟩ = some (.string ⟨y.toArray⟩)) (hm1 : 1 ≤ m) (hv : (bitsL y).isSome = true) (hm2 : m ≠ 1) : Calls Tryd.prog 90 #[.slice (some ⟨b, o, none⟩) n cap] w fun e w' => ∃ x : Int, RetOne k x 0 0 false w e w' ∧ ∀ v, bitsL y = some v → x = v := by
  obtain ⟨m2, hm3⟩ : ∃ m2, m - 1 = m2 := ⟨_, rfl⟩
  have hm4 : ((m2 : Int) != 0) = true := by simp; omega
  have HNU := Lib.hid (fun w => anumber_any y w hy)
  unfold strV at HNU
  have hcx : cap ≠ 1 := by have := h.nm; have := h.nc; omega
  have hmc : m ≤ c1 := by have := h.nm; have := h.nc; have := h.cc; omega
  have hn1 := h.n1
  have hnm := h.nm
  have hnc := h.nc
  have hcm := h.cm
  have hcc := h.cc
  have hb := h.hb
  have c0 := h.c0
  have HO := Lib.hid h.op
  have HSH := Lib.hid h.sh
  clear h
  go_enter Tryd.func90, Tryd.ntmps90
  go_upto_region 1 with fail
  refine wp_named ?_
  intro W1 hW1
  have HR1 : Hid (Blk W1 w.heap.size [.int .i64 0, .int .u64 0, .int .i64 0, .int .i64 0]) := Lib.hid (by rw [hW1]; exact blk_new _ _ _)
  have HB1 : Hid (Below w.heap.size w W1) := Lib.hid (by rw [hW1]; exact b_alloc (Below.refl _ _) _)
  clear hW1
  have HCC := Lib.hid (fun (w' : World) (hw : Below w.heap.size w w') => (bcell hw).1 b o hb)
  have c0' : W1.cell? ⟨b, o, none⟩ = some (.string ⟨a.toArray⟩) := (HCC.out _ HB1.out).trans c0
  go_wp2_with fail
  refine (HO.out _).mono ?_
  rintro e w2 ⟨rfl, hb2⟩
  have HB2 := Lib.hid (b_call HB1.out hb2)
  have HB12 := Lib.hid hb2
  clear hb2
  go_wp2_with fail
  refine (HSH.out _).mono ?_
  rintro e w3 ⟨rfl, rfl⟩
  go_upto_region 5 with fail
  refine wp_named ?_
  intro W3 hW3
  have HI3 : Hid (Blk W3 w2.heap.size [.int .i64 k, .int .u64 0, .int .i64 0, .int .i64 0]) := Lib.hid (by rw [hW3]; exact blk_new _ _ _)
  have HB3 : Hid (Below w.heap.size w W3) := Lib.hid (by rw [hW3]; exact b_alloc HB2.out _)
  have HR3 : Hid (Blk W3 w.heap.size [.int .i64 0, .int .u64 0, .int .i64 0, .int .i64 0]) := Lib.hid (blk_below HR1.out (by rw [hW3]; exact b_alloc HB12.out _))
  have HNE : Hid (w2.heap.size ≠ w.heap.size) := Lib.hid (by have := HB1.out.size; have := HB12.out.size; have := HR1.out.1; omega)
  have hs23 : w2.heap.size < W3.heap.size := HI3.out.1
  clear hW3 c0'
  have c1' : W3.cell? ⟨b, o + 1, none⟩ = some (.string ⟨y.toArray⟩) := ((bcell HB3.out).1 b (o + 1) hb).trans c1x
  have hb3 : b < W3.heap.size := by have := HB3.out.size; omega
  by_cases hc2 : c1 = 1
  · subst hc2
    exfalso; omega
  · skip
    obtain ⟨i0, i1, i2, i3, jf⟩ := blk4 HI3.out
    have iz := HI3.out.1
    obtain ⟨r0, r1, r2, r3, rf⟩ := blk4 HR3.out
    have rz := HR3.out.1
    go_wp2_with fail
    refine (HNU.out _).mono ?_
    rintro e w4 ⟨⟨x, rfl, hx⟩, rfl⟩
    go_upto_region 7 with fail
    refine wp_named ?_
    intro W4 hW4
    have HI4 : Hid (Blk W4 w2.heap.size [.int .i64 k, .int .u64 x, .int .i64 0, .int .i64 0]) := Lib.hid (by rw [hW4]; exact blk_set HI3.out 1 _)
    have HR4 : Hid (Blk W4 w.heap.size [.int .i64 0, .int .u64 0, .int .i64 0, .int .i64 0]) := Lib.hid (by rw [hW4]; exact blk_other HR3.out HNE.out _)
    have HB4 : Hid (Below w.heap.size w W4) := Lib.hid (by rw [hW4]; exact b_set HB3.out (by have := HB2.out.size; omega) _)
    clear hW4 i0 i1 i2 i3 jf iz r0 r1 r2 r3 rf rz c1'
    obtain ⟨i0, i1, i2, i3, jf⟩ := blk4 HI4.out
    have iz := HI4.out.1
    obtain ⟨r0, r1, r2, r3, rf⟩ := blk4 HR4.out
    have rz := HR4.out.1
    go_wp2_with fail
    refine post_named ?_
    intro wF hwF
    have BF : Blk wF w.heap.size [.int .i64 k, .int .u64 x, .int .i64 0, .int .i64 0] := by rw [hwF]; exact blk_set (blk_set (blk_set (blk_set HR4.out 0 _) 1 _) 2 _) 3 _
    have FB : Below w.heap.size w wF := by rw [hwF]; exact b_set (b_set (b_set (b_set HB4.out (Nat.le_refl _) _) (Nat.le_refl _) _) (Nat.le_refl _) _) (Nat.le_refl _) _
    clear hwF
    obtain ⟨q0, q1, q2, q3, _⟩ := blk4 BF
    exact bodyPost_ret (v := .tuple #[.agg #[.int .i64 k, .int .u64 x, .int .i64 0, .int .i64 0], .bool false]) (by simp [results, Tryd.results90, go_sem, q0, q1, q2, q3]) rfl ⟨x, ⟨rfl, FB⟩, hx⟩
set_option maxRecDepth 100000 in
set_option maxHeartbeats 2000000 in
theorem one_xok {w : World} {b o n m cap c1 : Nat} {a : List UInt8} {k : Nat} (h : OneAt w b o n m cap c1 a k true 0 true) {y : List UInt8} (hy : y.length ≤ 1000000) (c1x : w.cell? ⟨b, o + 1, none⟩ = some (.string ⟨y.toArray⟩)) (hm1 : 1 ≤ m) (hv : (bitsL y).isSome = true) (hm2 : m = 1) : Calls Tryd.prog 90 #[.slice (some ⟨b, o, none⟩) n cap] w fun e w' => ∃ x : Int, RetOne k x 0 0 true w e w' ∧ ∀ v, bitsL y = some v → x = v := by
  obtain ⟨m2, hm3⟩ : ∃ m2, m - 1 = m2 := ⟨_, rfl⟩
  have hm4 : m2 = 0 := by omega
  subst hm4
  have HNU := Lib.hid (fun w => anumber_any y w hy)
  unfold strV at HNU
  have hcx : cap ≠ 1 := by have := h.nm; have := h.nc; omega
  have hmc : m ≤ c1 := by have := h.nm; have := h.nc; have := h.cc; omega
  have hn1 := h.n1
  have hnm := h.nm
  have hnc := h.nc
  have hcm := h.cm
  have hcc := h.cc
  have hb := h.hb
  have c0 := h.c0
  have HO := Lib.hid h.op
  have HSH := Lib.hid h.sh
  clear h
  go_enter Tryd.func90, Tryd.ntmps90
  go_upto_region 1 with fail
  refine wp_named ?_
  intro W1 hW1
  have HR1 : Hid (Blk W1 w.heap.size [.int .i64 0, .int .u64 0, .int .i64 0, .int .i64 0]) := Lib.hid (by rw [hW1]; exact blk_new _ _ _)
  have HB1 : Hid (Below w.heap.size w W1) := Lib.hid (by rw [hW1]; exact b_alloc (Below.refl _ _) _)
  clear hW1
  have HCC := Lib.hid (fun (w' : World) (hw : Below w.heap.size w w') => (bcell hw).1 b o hb)
  have c0' : W1.cell? ⟨b, o, none⟩ = some (.string ⟨a.toArray⟩) := (HCC.out _ HB1.out).trans c0
  go_wp2_with fail
  refine (HO.out _).mono ?_
  rintro e w2 ⟨rfl, hb2⟩
  have HB2 := Lib.hid (b_call HB1.out hb2)
  have HB12 := Lib.hid hb2
  clear hb2
  go_wp2_with fail
  refine (HSH.out _).mono ?_
  rintro e w3 ⟨rfl, rfl⟩
  go_upto_region 5 with fail
  refine wp_named ?_
  intro W3 hW3
  have HI3 : Hid (Blk W3 w2.heap.size [.int .i64 k, .int .u64 0, .int .i64 0, .int .i64 0]) := Lib.hid (by rw [hW3]; exact blk_new _ _ _)
  have HB3 : Hid (Below w.heap.size w W3) := Lib.hid (by rw [hW3]; exact b_alloc HB2.out _)
  have HR3 : Hid (Blk W3 w.heap.size [.int .i64 0, .int .u64 0, .int .i64 0, .int .i64 0]) := Lib.hid (blk_below HR1.out (by rw [hW3]; exact b_alloc HB12.out _))
  have HNE : Hid (w2.heap.size ≠ w.heap.size) := Lib.hid (by have := HB1.out.size; have := HB12.out.size; have := HR1.out.1; omega)
  have hs23 : w2.heap.size < W3.heap.size := HI3.out.1
  clear hW3 c0'
  have c1' : W3.cell? ⟨b, o + 1, none⟩ = some (.string ⟨y.toArray⟩) := ((bcell HB3.out).1 b (o + 1) hb).trans c1x
  have hb3 : b < W3.heap.size := by have := HB3.out.size; omega
  by_cases hc2 : c1 = 1
  · subst hc2
    obtain ⟨i0, i1, i2, i3, jf⟩ := blk4 HI3.out
    have iz := HI3.out.1
    obtain ⟨r0, r1, r2, r3, rf⟩ := blk4 HR3.out
    have rz := HR3.out.1
    go_wp2_with fail
    refine (HNU.out _).mono ?_
    rintro e w4 ⟨⟨x, rfl, hx⟩, rfl⟩
    go_upto_region 7 with fail
    refine wp_named ?_
    intro W4 hW4
    have HI4 : Hid (Blk W4 w2.heap.size [.int .i64 k, .int .u64 x, .int .i64 0, .int .i64 0]) := Lib.hid (by rw [hW4]; exact blk_set HI3.out 1 _)
    have HR4 : Hid (Blk W4 w.heap.size [.int .i64 0, .int .u64 0, .int .i64 0, .int .i64 0]) := Lib.hid (by rw [hW4]; exact blk_other HR3.out HNE.out _)
    have HB4 : Hid (Below w.heap.size w W4) := Lib.hid (by rw [hW4]; exact b_set HB3.out (by have := HB2.out.size; omega) _)
    clear hW4 i0 i1 i2 i3 jf iz r0 r1 r2 r3 rf rz c1'
    obtain ⟨i0, i1, i2, i3, jf⟩ := blk4 HI4.out
    have iz := HI4.out.1
    obtain ⟨r0, r1, r2, r3, rf⟩ := blk4 HR4.out
    have rz := HR4.out.1
    go_wp2_with fail
    refine post_named ?_
    intro wF hwF
    have BF : Blk wF w.heap.size [.int .i64 k, .int .u64 x, .int .i64 0, .int .i64 0] := by rw [hwF]; exact blk_set (blk_set (blk_set (blk_set HR4.out 0 _) 1 _) 2 _) 3 _
    have FB : Below w.heap.size w wF := by rw [hwF]; exact b_set (b_set (b_set (b_set HB4.out (Nat.le_refl _) _) (Nat.le_refl _) _) (Nat.le_refl _) _) (Nat.le_refl _) _
    clear hwF
    obtain ⟨q0, q1, q2, q3, _⟩ := blk4 BF
    exact bodyPost_ret (v := .tuple #[.agg #[.int .i64 k, .int .u64 x, .int .i64 0, .int .i64 0], .bool true]) (by simp [results, Tryd.results90, go_sem, q0, q1, q2, q3]) rfl ⟨x, ⟨rfl, FB⟩, hx⟩
  · skip
    obtain ⟨i0, i1, i2, i3, jf⟩ := blk4 HI3.out
    have iz := HI3.out.1
    obtain ⟨r0, r1, r2, r3, rf⟩ := blk4 HR3.out
    have rz := HR3.out.1
    go_wp2_with fail
    refine (HNU.out _).mono ?_
    rintro e w4 ⟨⟨x, rfl, hx⟩, rfl⟩
    go_upto_region 7 with fail
    refine wp_named ?_
    intro W4 hW4
    have HI4 : Hid (Blk W4 w2.heap.size [.int .i64 k, .int .u64 x, .int .i64 0, .int .i64 0]) := Lib.hid (by rw [hW4]; exact blk_set HI3.out 1 _)
    have HR4 : Hid (Blk W4 w.heap.size [.int .i64 0, .int .u64 0, .int .i64 0, .int .i64 0]) := Lib.hid (by rw [hW4]; exact blk_other HR3.out HNE.out _)
    have HB4 : Hid (Below w.heap.size w W4) := Lib.hid (by rw [hW4]; exact b_set HB3.out (by have := HB2.out.size; omega) _)
    clear hW4 i0 i1 i2 i3 jf iz r0 r1 r2 r3 rf rz c1'
    obtain ⟨i0, i1, i2, i3, jf⟩ := blk4 HI4.out
    have iz := HI4.out.1
    obtain ⟨r0, r1, r2, r3, rf⟩ := blk4 HR4.out
    have rz := HR4.out.1
    go_wp2_with fail
    refine post_named ?_
    intro wF hwF
    have BF : Blk wF w.heap.size [.int .i64 k, .int .u64 x, .int .i64 0, .int .i64 0] := by rw [hwF]; exact blk_set (blk_set (blk_set (blk_set HR4.out 0 _) 1 _) 2 _) 3 _
    have FB : Below w.heap.size w wF := by rw [hwF]; exact b_set (b_set (b_set (b_set HB4.out (Nat.le_refl _) _) (Nat.le_refl _) _) (Nat.le_refl _) _) (Nat.le_refl _) _
    clear hwF
    obtain ⟨q0, q1, q2, q3, _⟩ := blk4 BF
    exact bodyPost_ret (v := .tuple #[.agg #[.int .i64 k, .int .u64 x, .int .i64 0, .int .i64 0], .bool true]) (by simp [results, Tryd.results90, go_sem, q0, q1, q2, q3]) rfl ⟨x, ⟨rfl, FB⟩, hx⟩
set_option maxRecDepth 100000 in
set_option maxHeartbeats 2000000 in
theorem one_abad {w : World} {b o n m cap c1 : Nat} {a : List UInt8} {k : Nat} (h : OneAt w b o n m cap c1 a k true 1 false) {y : List UInt8} (hy : y.length ≤ 1000000) (c1x : w.cell? ⟨b, o + 1, none⟩ = some (.string ⟨y.toArray⟩)) (hm1 : ((m : Int) != 1) = false) (hm0 : 0 < m) (hv : (valL y).isSome = false) : Calls Tryd.prog 90 #[.slice (some ⟨b, o, none⟩) n cap] w fun e w' => ∃ x : Int, RetOne k 0 x 0 false w e w' ∧ ∀ v, valL y = some v → x = v := by
  have hcx : cap ≠ 1 := by have := h.nm; have := h.nc; omega
  have hmc : m ≤ c1 := by have := h.nm; have := h.nc; have := h.cc; omega
  have HSA := Lib.hid (fun w => asmall_any y w hy)
  unfold strV at HSA
  have hn1 := h.n1
  have hnm := h.nm
  have hnc := h.nc
  have hcm := h.cm
  have hcc := h.cc
  have hb := h.hb
  have c0 := h.c0
  have HO := Lib.hid h.op
  have HSH := Lib.hid h.sh
  clear h
  go_enter Tryd.func90, Tryd.ntmps90
  go_upto_region 1 with fail
  refine wp_named ?_
  intro W1 hW1
  have HR1 : Hid (Blk W1 w.heap.size [.int .i64 0, .int .u64 0, .int .i64 0, .int .i64 0]) := Lib.hid (by rw [hW1]; exact blk_new _ _ _)
  have HB1 : Hid (Below w.heap.size w W1) := Lib.hid (by rw [hW1]; exact b_alloc (Below.refl _ _) _)
  clear hW1
  have HCC := Lib.hid (fun (w' : World) (hw : Below w.heap.size w w') => (bcell hw).1 b o hb)
  have c0' : W1.cell? ⟨b, o, none⟩ = some (.string ⟨a.toArray⟩) := (HCC.out _ HB1.out).trans c0
  go_wp2_with fail
  refine (HO.out _).mono ?_
  rintro e w2 ⟨rfl, hb2⟩
  have HB2 := Lib.hid (b_call HB1.out hb2)
  have HB12 := Lib.hid hb2
  clear hb2
  go_wp2_with fail
  refine (HSH.out _).mono ?_
  rintro e w3 ⟨rfl, rfl⟩
  go_upto_region 5 with fail
  refine wp_named ?_
  intro W3 hW3
  have HI3 : Hid (Blk W3 w2.heap.size [.int .i64 k, .int .u64 0, .int .i64 0, .int .i64 0]) := Lib.hid (by rw [hW3]; exact blk_new _ _ _)
  have HB3 : Hid (Below w.heap.size w W3) := Lib.hid (by rw [hW3]; exact b_alloc HB2.out _)
  have HR3 : Hid (Blk W3 w.heap.size [.int .i64 0, .int .u64 0, .int .i64 0, .int .i64 0]) := Lib.hid (blk_below HR1.out (by rw [hW3]; exact b_alloc HB12.out _))
  have HNE : Hid (w2.heap.size ≠ w.heap.size) := Lib.hid (by have := HB1.out.size; have := HB12.out.size; have := HR1.out.1; omega)
  have hs23 : w2.heap.size < W3.heap.size := HI3.out.1
  clear hW3 c0'
  have c1' : W3.cell? ⟨b, o + 1, none⟩ = some (.string ⟨y.toArray⟩) := ((bcell HB3.out).1 b (o + 1) hb).trans c1x
  have hb3 : b < W3.heap.size := by have := HB3.out.size; omega
  obtain ⟨i0, i1, i2, i3, jf⟩ := blk4 HI3.out
  have iz := HI3.out.1
  obtain ⟨r0, r1, r2, r3, rf⟩ := blk4 HR3.out
  have rz := HR3.out.1
  go_wp2_with fail
  refine (HSA.out _).mono ?_
  rintro e w4 ⟨⟨x, rfl, hx⟩, rfl⟩
  go_upto_region 14 with fail
  refine wp_named ?_
  intro W4 hW4
  have HI4 : Hid (Blk W4 w2.heap.size [.int .i64 k, .int .u64 0, .int .i64 x, .int .i64 0]) := Lib.hid (by rw [hW4]; exact blk_set HI3.out 2 _)
  have HR4 : Hid (Blk W4 w.heap.size [.int .i64 0, .int .u64 0, .int .i64 0, .int .i64 0]) := Lib.hid (by rw [hW4]; exact blk_other HR3.out HNE.out _)
  have HB4 : Hid (Below w.heap.size w W4) := Lib.hid (by rw [hW4]; exact b_set HB3.out (by have := HB2.out.size; omega) _)
  clear hW4 i0 i1 i2 i3 jf iz r0 r1 r2 r3 rf rz c1'
  obtain ⟨i0, i1, i2, i3, jf⟩ := blk4 HI4.out
  have iz := HI4.out.1
  obtain ⟨r0, r1, r2, r3, rf⟩ := blk4 HR4.out
  have rz := HR4.out.1
  go_wp2_with fail
  refine post_named ?_
  intro wF hwF
  have BF : Blk wF w.heap.size [.int .i64 k, .int .u64 0, .int .i64 x, .int .i64 0] := by rw [hwF]; exact blk_set (blk_set (blk_set (blk_set HR4.out 0 _) 1 _) 2 _) 3 _
  have FB : Below w.heap.size w wF := by rw [hwF]; exact b_set (b_set (b_set (b_set HB4.out (Nat.le_refl _) _) (Nat.le_refl _) _) (Nat.le_refl _) _) (Nat.le_refl _) _
  clear hwF
  obtain ⟨q0, q1, q2, q3, _⟩ := blk4 BF
  exact bodyPost_ret (v := .tuple #[.agg #[.int .i64 k, .int .u64 0, .int .i64 x, .int .i64 0], .bool false]) (by simp [results, Tryd.results90, go_sem, q0, q1, q2, q3]) rfl ⟨x, ⟨rfl, FB⟩, hx⟩
set_option maxRecDepth 100000 in
set_option maxHeartbeats 2000000 in
theorem one_aok {w : World} {b o n m cap c1 : Nat} {a : List UInt8} {k : Nat} (h : OneAt w b o n m cap c1 a k true 1 false) {y : List UInt8} (hy : y.length ≤ 1000000) (c1x : w.cell? ⟨b, o + 1, none⟩ = some (.string ⟨y.toArray⟩)) (hm1 : ((m : Int) != 1) = false) (hm0 : 0 < m) (hv : (valL y).isSome = true) : Calls Tryd.prog 90 #[.slice (some ⟨b, o, none⟩) n cap] w fun e w' => ∃ x : Int, RetOne k 0 x 0 true w e w' ∧ ∀ v, valL y = some v → x = v := by
  have hcx : cap ≠ 1 := by have := h.nm; have := h.nc; omega
  have hmc : m ≤ c1 := by have := h.nm; have := h.nc; have := h.cc; omega
  have HSA := Lib.hid (fun w => asmall_any y w hy)
  unfold strV at HSA
  have hn1 := h.n1
  have hnm := h.nm
  have hnc := h.nc
  have hcm := h.cm
  have hcc := h.cc
  have hb := h.hb
  have c0 := h.c0
  have HO := Lib.hid h.op
  have HSH := Lib.hid h.sh
  clear h
  go_enter Tryd.func90, Tryd.ntmps90
  go_upto_region 1 with fail
  refine wp_named ?_
  intro W1 hW1
  have HR1 : Hid (Blk W1 w.heap.size [.int .i64 0, .int .u64 0, .int .i64 0, .int .i64 0]) := Lib.hid (by rw [hW1]; exact blk_new _ _ _)
  have HB1 : Hid (Below w.heap.size w W1) := Lib.hid (by rw [hW1]; exact b_alloc (Below.refl _ _) _)
  clear hW1
  have HCC := Lib.hid (fun (w' : World) (hw : Below w.heap.size w w') => (bcell hw).1 b o hb)
  have c0' : W1.cell? ⟨b, o, none⟩ = some (.string ⟨a.toArray⟩) := (HCC.out _ HB1.out).trans c0
  go_wp2_with fail
  refine (HO.out _).mono ?_
  rintro e w2 ⟨rfl, hb2⟩
  have HB2 := Lib.hid (b_call HB1.out hb2)
  have HB12 := Lib.hid hb2
  clear hb2
  go_wp2_with fail
  refine (HSH.out _).mono ?_
  rintro e w3 ⟨rfl, rfl⟩
  go_upto_region 5 with fail
  refine wp_named ?_
  intro W3 hW3
  have HI3 : Hid (Blk W3 w2.heap.size [.int .i64 k, .int .u64 0, .int .i64 0, .int .i64 0]) := Lib.hid (by rw [hW3]; exact blk_new _ _ _)
  have HB3 : Hid (Below w.heap.size w W3) := Lib.hid (by rw [hW3]; exact b_alloc HB2.out _)
  have HR3 : Hid (Blk W3 w.heap.size [.int .i64 0, .int .u64 0, .int .i64 0, .int .i64 0]) := Lib.hid (blk_below HR1.out (by rw [hW3]; exact b_alloc HB12.out _))
  have HNE : Hid (w2.heap.size ≠ w.heap.size) := Lib.hid (by have := HB1.out.size; have := HB12.out.size; have := HR1.out.1; omega)
  have hs23 : w2.heap.size < W3.heap.size := HI3.out.1
  clear hW3 c0'
  have c1' : W3.cell? ⟨b, o + 1, none⟩ = some (.string ⟨y.toArray⟩) := ((bcell HB3.out).1 b (o + 1) hb).trans c1x
  have hb3 : b < W3.heap.size := by have := HB3.out.size; omega
  obtain ⟨i0, i1, i2, i3, jf⟩ := blk4 HI3.out
  have iz := HI3.out.1
  obtain ⟨r0, r1, r2, r3, rf⟩ := blk4 HR3.out
  have rz := HR3.out.1
  go_wp2_with fail
  refine (HSA.out _).mono ?_
  rintro e w4 ⟨⟨x, rfl, hx⟩, rfl⟩
  go_upto_region 14 with fail
  refine wp_named ?_
  intro W4 hW4
  have HI4 : Hid (Blk W4 w2.heap.size [.int .i64 k, .int .u64 0, .int .i64 x, .int .i64 0]) := Lib.hid (by rw [hW4]; exact blk_set HI3.out 2 _)
  have HR4 : Hid (Blk W4 w.heap.size [.int .i64 0, .int .u64 0, .int .i64 0, .int .i64 0]) := Lib.hid (by rw [hW4]; exact blk_other HR3.out HNE.out _)
  have HB4 : Hid (Below w.heap.size w W4) := Lib.hid (by rw [hW4]; exact b_set HB3.out (by have := HB2.out.size; omega) _)
  clear hW4 i0 i1 i2 i3 jf iz r0 r1 r2 r3 rf rz c1'
  obtain ⟨i0, i1, i2, i3, jf⟩ := blk4 HI4.out
  have iz := HI4.out.1
  obtain ⟨r0, r1, r2, r3, rf⟩ := blk4 HR4.out
  have rz := HR4.out.1
  go_wp2_with fail
  refine post_named ?_
  intro wF hwF
  have BF : Blk wF w.heap.size [.int .i64 k, .int .u64 0, .int .i64 x, .int .i64 0] := by rw [hwF]; exact blk_set (blk_set (blk_set (blk_set HR4.out 0 _) 1 _) 2 _) 3 _
  have FB : Below w.heap.size w wF := by rw [hwF]; exact b_set (b_set (b_set (b_set HB4.out (Nat.le_refl _) _) (Nat.le_refl _) _) (Nat.le_refl _) _) (Nat.le_refl _) _
  clear hwF
  obtain ⟨q0, q1, q2, q3, _⟩ := blk4 BF
  exact bodyPost_ret (v := .tuple #[.agg #[.int .i64 k, .int .u64 0, .int .i64 x, .int .i64 0], .bool true]) (by simp [results, Tryd.results90, go_sem, q0, q1, q2, q3]) rfl ⟨x, ⟨rfl, FB⟩, hx⟩
set_option maxRecDepth 100000 in
set_option maxHeartbeats 2000000 in
theorem one_bbad {w : World} {b o n m cap c1 : Nat} {a : List UInt8} {k : Nat} (h : OneAt w b o n m cap c1 a k true 2 false) {y y2 : List UInt8} (hy : y.length ≤ 1000000) (hy2 : y2.length ≤ 1000000) (c1x : w.cell? ⟨b, o + 1, none⟩ = some (.string ⟨y.toArray⟩)) (c2x : w.cell? ⟨b, o + 1 + 1, none⟩ = some (.string ⟨y2.toArray⟩)) (hm1 : ((m : Int) != 2) = false) (hm0 : 1 < m) (hv : (valL y).isSome = false) : Calls Tryd.prog 90 #[.slice (some ⟨b, o, none⟩) n cap] w fun e w' => ∃ x z : Int, RetOne k 0 x z false w e w' ∧ (∀ v, valL y = some v → x = v) ∧ ∀ v, valL y2 = some v → z = v := by
  have hcx : cap ≠ 1 := by have := h.nm; have := h.nc; omega
  have hmc : m ≤ c1 := by have := h.nm; have := h.nc; have := h.cc; omega
  have hm00 : 0 < m := by omega
  have HSA := Lib.hid (fun w => asmall_any y w hy)
  have HSB := Lib.hid (fun w => asmall_any y2 w hy2)
  unfold strV at HSA HSB
  have hn1 := h.n1
  have hnm := h.nm
  have hnc := h.nc
  have hcm := h.cm
  have hcc := h.cc
  have hb := h.hb
  have c0 := h.c0
  have HO := Lib.hid h.op
  have HSH := Lib.hid h.sh
  clear h
  go_enter Tryd.func90, Tryd.ntmps90
  go_upto_region 1 with fail
  refine wp_named ?_
  intro W1 hW1
  have HR1 : Hid (Blk W1 w.heap.size [.int .i64 0, .int .u64 0, .int .i64 0, .int .i64 0]) := Lib.hid (by rw [hW1]; exact blk_new _ _ _)
  have HB1 : Hid (Below w.heap.size w W1) := Lib.hid (by rw [hW1]; exact b_alloc (Below.refl _ _) _)
  clear hW1
  have HCC := Lib.hid (fun (w' : World) (hw : Below w.heap.size w w') => (bcell hw).1 b o hb)
  have c0' : W1.cell? ⟨b, o, none⟩ = some (.string ⟨a.toArray⟩) := (HCC.out _ HB1.out).trans c0
  go_wp2_with fail
  refine (HO.out _).mono ?_
  rintro e w2 ⟨rfl, hb2⟩
  have HB2 := Lib.hid (b_call HB1.out hb2)
  have HB12 := Lib.hid hb2
  clear hb2
  go_wp2_with fail
  refine (HSH.out _).mono ?_
  rintro e w3 ⟨rfl, rfl⟩
  go_upto_region 5 with fail
  refine wp_named ?_
  intro W3 hW3
  have HI3 : Hid (Blk W3 w2.heap.size [.int .i64 k, .int .u64 0, .int .i64 0, .int .i64 0]) := Lib.hid (by rw [hW3]; exact blk_new _ _ _)
  have HB3 : Hid (Below w.heap.size w W3) := Lib.hid (by rw [hW3]; exact b_alloc HB2.out _)
  have HR3 : Hid (Blk W3 w.heap.size [.int .i64 0, .int .u64 0, .int .i64 0, .int .i64 0]) := Lib.hid (blk_below HR1.out (by rw [hW3]; exact b_alloc HB12.out _))
  have HNE : Hid (w2.heap.size ≠ w.heap.size) := Lib.hid (by have := HB1.out.size; have := HB12.out.size; have := HR1.out.1; omega)
  have hs23 : w2.heap.size < W3.heap.size := HI3.out.1
  clear hW3 c0'
  have c1' : W3.cell? ⟨b, o + 1, none⟩ = some (.string ⟨y.toArray⟩) := ((bcell HB3.out).1 b (o + 1) hb).trans c1x
  have hb3 : b < W3.heap.size := by have := HB3.out.size; omega
  have HC2 : Hid (∀ w', Below w.heap.size w w' → w'.cell? ⟨b, o + 1 + 1, none⟩ = some (.string ⟨y2.toArray⟩)) := Lib.hid (fun w' hw => ((bcell hw).1 b (o + 1 + 1) hb).trans c2x)
  obtain ⟨i0, i1, i2, i3, jf⟩ := blk4 HI3.out
  have iz := HI3.out.1
  obtain ⟨r0, r1, r2, r3, rf⟩ := blk4 HR3.out
  have rz := HR3.out.1
  go_wp2_with fail
  refine (HSA.out _).mono ?_
  rintro e w4 ⟨⟨x, rfl, hx⟩, rfl⟩
  go_upto_region 14 with fail
  refine wp_named ?_
  intro W4 hW4
  have HI4 : Hid (Blk W4 w2.heap.size [.int .i64 k, .int .u64 0, .int .i64 x, .int .i64 0]) := Lib.hid (by rw [hW4]; exact blk_set HI3.out 2 _)
  have HR4 : Hid (Blk W4 w.heap.size [.int .i64 0, .int .u64 0, .int .i64 0, .int .i64 0]) := Lib.hid (by rw [hW4]; exact blk_other HR3.out HNE.out _)
  have HB4 : Hid (Below w.heap.size w W4) := Lib.hid (by rw [hW4]; exact b_set HB3.out (by have := HB2.out.size; omega) _)
  clear hW4 i0 i1 i2 i3 jf iz r0 r1 r2 r3 rf rz c1'
  have c2' := HC2.out _ HB4.out
  have hb4 : b < W4.heap.size := by have := HB4.out.size; omega
  obtain ⟨i0, i1, i2, i3, jf⟩ := blk4 HI4.out
  have iz := HI4.out.1
  obtain ⟨r0, r1, r2, r3, rf⟩ := blk4 HR4.out
  have rz := HR4.out.1
  go_wp2_with fail
  refine (HSB.out _).mono ?_
  rintro e w5 ⟨⟨z, rfl, hz⟩, rfl⟩
  go_upto_region 16 with fail
  refine wp_named ?_
  intro W5 hW5
  have HI5 : Hid (Blk W5 w2.heap.size [.int .i64 k, .int .u64 0, .int .i64 x, .int .i64 z]) := Lib.hid (by rw [hW5]; exact blk_set HI4.out 3 _)
  have HR5 : Hid (Blk W5 w.heap.size [.int .i64 0, .int .u64 0, .int .i64 0, .int .i64 0]) := Lib.hid (by rw [hW5]; exact blk_other HR4.out HNE.out _)
  have HB5 : Hid (Below w.heap.size w W5) := Lib.hid (by rw [hW5]; exact b_set HB4.out (by have := HB2.out.size; omega) _)
  clear hW5 i0 i1 i2 i3 jf iz r0 r1 r2 r3 rf rz c2'
  obtain ⟨i0, i1, i2, i3, jf⟩ := blk4 HI5.out
  have iz := HI5.out.1
  obtain ⟨r0, r1, r2, r3, rf⟩ := blk4 HR5.out
  have rz := HR5.out.1
  go_wp2_with fail
  refine post_named ?_
  intro wF hwF
  have BF : Blk wF w.heap.size [.int .i64 k, .int .u64 0, .int .i64 x, .int .i64 z] := by rw [hwF]; exact blk_set (blk_set (blk_set (blk_set HR5.out 0 _) 1 _) 2 _) 3 _
  have FB : Below w.heap.size w wF := by rw [hwF]; exact b_set (b_set (b_set (b_set HB5.out (Nat.le_refl _) _) (Nat.le_refl _) _) (Nat.le_refl _) _) (Nat.le_refl _) _
  clear hwF
  obtain ⟨q0, q1, q2, q3, _⟩ := blk4 BF
  exact bodyPost_ret (v := .tuple #[.agg #[.int .i64 k, .int .u64 0, .int .i64 x, .int .i64 z], .bool false]) (by simp [results, Tryd.results90, go_sem, q0, q1, q2, q3]) rfl ⟨x, z, ⟨rfl, FB⟩, hx, hz⟩
set_option maxRecDepth 100000 in
set_option maxHeartbeats 2000000 in
theorem one_bbad2 {w : World} {b o n m cap c1 : Nat} {a : List UInt8} {k : Nat} (h : OneAt w b o n m cap c1 a k true 2 false) {y y2 : List UInt8} (hy : y.length ≤ 1000000) (hy2 : y2.length ≤ 1000000) (c1x : w.cell? ⟨b, o + 1, none⟩ = some (.string ⟨y.toArray⟩)) (c2x : w.cell? ⟨b, o + 1 + 1, none⟩ = some (.string ⟨y2.toArray⟩)) (hm1 : ((m : Int) != 2) = false) (hm0 : 1 < m) (hv : (valL y).isSome = true) (hv2 : (valL y2).isSome = false) : Calls Tryd.prog 90 #[.slice (some ⟨b, o, none⟩) n cap] w fun e w' => ∃ x z : Int, RetOne k 0 x z false w e w' ∧ (∀ v, valL y = some v → x = v) ∧ ∀ v, valL y2 = some v → z = v := by
  have hcx : cap ≠ 1 := by have := h.nm; have := h.nc; omega
  have hmc : m ≤ c1 := by have := h.nm; have := h.nc; have := h.cc; omega
  have hm00 : 0 < m := by omega
  have HSA := Lib.hid (fun w => asmall_any y w hy)
  have HSB := Lib.hid (fun w => asmall_any y2 w hy2)
  unfold strV at HSA HSB
  have hn1 := h.n1
  have hnm := h.nm
  have hnc := h.nc
  have hcm := h.cm
  have hcc := h.cc
  have hb := h.hb
  have c0 := h.c0
  have HO := Lib.hid h.op
  have HSH := Lib.hid h.sh
  clear h
  go_enter Tryd.func90, Tryd.ntmps90
  go_upto_region 1 with fail
  refine wp_named ?_
  intro W1 hW1
  have HR1 : Hid (Blk W1 w.heap.size [.int .i64 0, .int .u64 0, .int .i64 0, .int .i64 0]) := Lib.hid (by rw [hW1]; exact blk_new _ _ _)
  have HB1 : Hid (Below w.heap.size w W1) := Lib.hid (by rw [hW1]; exact b_alloc (Below.refl _ _) _)
  clear hW1
  have HCC := Lib.hid (fun (w' : World) (hw : Below w.heap.size w w') => (bcell hw).1 b o hb)
  have c0' : W1.cell? ⟨b, o, none⟩ = some (.string ⟨a.toArray⟩) := (HCC.out _ HB1.out).trans c0
  go_wp2_with fail
  refine (HO.out _).mono ?_
  rintro e w2 ⟨rfl, hb2⟩
  have HB2 := Lib.hid (b_call HB1.out hb2)
  have HB12 := Lib.hid hb2
  clear hb2
  go_wp2_with fail
  refine (HSH.out _).mono ?_
  rintro e w3 ⟨rfl, rfl⟩
  go_upto_region 5 with fail
  refine wp_named ?_
  intro W3 hW3
  have HI3 : Hid (Blk W3 w2.heap.size [.int .i64 k, .int .u64 0, .int .i64 0, .int .i64 0]) := Lib.hid (by rw [hW3]; exact blk_new _ _ _)
  have HB3 : Hid (Below w.heap.size w W3) := Lib.hid (by rw [hW3]; exact b_alloc HB2.out _)
  have HR3 : Hid (Blk W3 w.heap.size [.int .i64 0, .int .u64 0, .int .i64 0, .int .i64 0]) := Lib.hid (blk_below HR1.out (by rw [hW3]; exact b_alloc HB12.out _))
  have HNE : Hid (w2.heap.size ≠ w.heap.size) := Lib.hid (by have := HB1.out.size; have := HB12.out.size; have := HR1.out.1; omega)
  have hs23 : w2.heap.size < W3.heap.size := HI3.out.1
  clear hW3 c0'
  have c1' : W3.cell? ⟨b, o + 1, none⟩ = some (.string ⟨y.toArray⟩) := ((bcell HB3.out).1 b (o + 1) hb).trans c1x
  have hb3 : b < W3.heap.size := by have := HB3.out.size; omega
  have HC2 : Hid (∀ w', Below w.heap.size w w' → w'.cell? ⟨b, o + 1 + 1, none⟩ = some (.string ⟨y2.toArray⟩)) := Lib.hid (fun w' hw => ((bcell hw).1 b (o + 1 + 1) hb).trans c2x)
  obtain ⟨i0, i1, i2, i3, jf⟩ := blk4 HI3.out
  have iz := HI3.out.1
  obtain ⟨r0, r1, r2, r3, rf⟩ := blk4 HR3.out
  have rz := HR3.out.1
  go_wp2_with fail
  refine (HSA.out _).mono ?_
  rintro e w4 ⟨⟨x, rfl, hx⟩, rfl⟩
  go_upto_region 14 with fail
  refine wp_named ?_
  intro W4 hW4
  have HI4 : Hid (Blk W4 w2.heap.size [.int .i64 k, .int .u64 0, .int .i64 x, .int .i64 0]) := Lib.hid (by rw [hW4]; exact blk_set HI3.out 2 _)
  have HR4 : Hid (Blk W4 w.heap.size [.int .i64 0, .int .u64 0, .int .i64 0, .int .i64 0]) := Lib.hid (by rw [hW4]; exact blk_other HR3.out HNE.out _)
  have HB4 : Hid (Below w.heap.size w W4) := Lib.hid (by rw [hW4]; exact b_set HB3.out (by have := HB2.out.size; omega) _)
  clear hW4 i0 i1 i2 i3 jf iz r0 r1 r2 r3 rf rz c1'
  have c2' := HC2.out _ HB4.out
  have hb4 : b < W4.heap.size := by have := HB4.out.size; omega
  obtain ⟨i0, i1, i2, i3, jf⟩ := blk4 HI4.out
  have iz := HI4.out.1
  obtain ⟨r0, r1, r2, r3, rf⟩ := blk4 HR4.out
  have rz := HR4.out.1
  go_wp2_with fail
  refine (HSB.out _).mono ?_
  rintro e w5 ⟨⟨z, rfl, hz⟩, rfl⟩
  go_upto_region 16 with fail
  refine wp_named ?_
  intro W5 hW5
  have HI5 : Hid (Blk W5 w2.heap.size [.int .i64 k, .int .u64 0, .int .i64 x, .int .i64 z]) := Lib.hid (by rw [hW5]; exact blk_set HI4.out 3 _)
  have HR5 : Hid (Blk W5 w.heap.size [.int .i64 0, .int .u64 0, .int .i64 0, .int .i64 0]) := Lib.hid (by rw [hW5]; exact blk_other HR4.out HNE.out _)
  have HB5 : Hid (Below w.heap.size w W5) := Lib.hid (by rw [hW5]; exact b_set HB4.out (by have := HB2.out.size; omega) _)
  clear hW5 i0 i1 i2 i3 jf iz r0 r1 r2 r3 rf rz c2'
  obtain ⟨i0, i1, i2, i3, jf⟩ := blk4 HI5.out
  have iz := HI5.out.1
  obtain ⟨r0, r1, r2, r3, rf⟩ := blk4 HR5.out
  have rz := HR5.out.1
  go_wp2_with fail
  refine post_named ?_
  intro wF hwF
  have BF : Blk wF w.heap.size [.int .i64 k, .int .u64 0, .int .i64 x, .int .i64 z] := by rw [hwF]; exact blk_set (blk_set (blk_set (blk_set HR5.out 0 _) 1 _) 2 _) 3 _
  have FB : Below w.heap.size w wF := by rw [hwF]; exact b_set (b_set (b_set (b_set HB5.out (Nat.le_refl _) _) (Nat.le_refl _) _) (Nat.le_refl _) _) (Nat.le_refl _) _
  clear hwF
  obtain ⟨q0, q1, q2, q3, _⟩ := blk4 BF
  exact bodyPost_ret (v := .tuple #[.agg #[.int .i64 k, .int .u64 0, .int .i64 x, .int .i64 z], .bool false]) (by simp [results, Tryd.results90, go_sem, q0, q1, q2, q3]) rfl ⟨x, z, ⟨rfl, FB⟩, hx, hz⟩
set_option maxRecDepth 100000 in
set_option maxHeartbeats 2000000 in
theorem one_bok {w : World} {b o n m cap c1 : Nat} {a : List UInt8} {k : Nat} (h : OneAt w b o n m cap c1 a k true 2 false) {y y2 : List UInt8} (hy : y.length ≤ 1000000) (hy2 : y2.length ≤ 1000000) (c1x : w.cell? ⟨b, o + 1, none⟩ = some (.string ⟨y.toArray⟩)) (c2x : w.cell? ⟨b, o + 1 + 1, none⟩ = some (.string ⟨y2.toArray⟩)) (hm1 : ((m : Int) != 2) = false) (hm0 : 1 < m) (hv : (valL y).isSome = true) (hv2 : (valL y2).isSome = true) : Calls Tryd.prog 90 #[.slice (some ⟨b, o, none⟩) n cap] w fun e w' => ∃ x z : Int, RetOne k 0 x z true w e w' ∧ (∀ v, valL y = some v → x = v) ∧ ∀ v, valL y2 = some v → z = v := by
  have hcx : cap ≠ 1 := by have := h.nm; have := h.nc; omega
  have hmc : m ≤ c1 := by have := h.nm; have := h.nc; have := h.cc; omega
  have hm00 : 0 < m := by omega
  have HSA := Lib.hid (fun w => asmall_any y w hy)
  have HSB := Lib.hid (fun w => asmall_any y2 w hy2)
  unfold strV at HSA HSB
  have hn1 := h.n1
  have hnm := h.nm
  have hnc := h.nc
  have hcm := h.cm
  have hcc := h.cc
  have hb := h.hb
  have c0 := h.c0
  have HO := Lib.hid h.op
  have HSH := Lib.hid h.sh
  clear h
  go_enter Tryd.func90, Tryd.ntmps90
  go_upto_region 1 with fail
  refine wp_named ?_
  intro W1 hW1
  have HR1 : Hid (Blk W1 w.heap.size [.int .i64 0, .int .u64 0, .int .i64 0, .int .i64 0]) := Lib.hid (by rw [hW1]; exact blk_new _ _ _)
  have HB1 : Hid (Below w.heap.size w W1) := Lib.hid (by rw [hW1]; exact b_alloc (Below.refl _ _) _)
  clear hW1
  have HCC := Lib.hid (fun (w' : World) (hw : Below w.heap.size w w') => (bcell hw).1 b o hb)
  have c0' : W1.cell? ⟨b, o, none⟩ = some (.string ⟨a.toArray⟩) := (HCC.out _ HB1.out).trans c0
  go_wp2_with fail
  refine (HO.out _).mono ?_
  rintro e w2 ⟨rfl, hb2⟩
  have HB2 := Lib.hid (b_call HB1.out hb2)
  have HB12 := Lib.hid hb2
  clear hb2
  go_wp2_with fail
  refine (HSH.out _).mono ?_
  rintro e w3 ⟨rfl, rfl⟩
  go_upto_region 5 with fail
  refine wp_named ?_
  intro W3 hW3
  have HI3 : Hid (Blk W3 w2.heap.size [.int .i64 k, .int .u64 0, .int .i64 0, .int .i64 0]) := Lib.hid (by rw [hW3]; exact blk_new _ _ _)
  have HB3 : Hid (Below w.heap.size w W3) := Lib.hid (by rw [hW3]; exact b_alloc HB2.out _)
  have HR3 : Hid (Blk W3 w.heap.size [.int .i64 0, .int .u64 0, .int .i64 0, .int .i64 0]) := Lib.hid (blk_below HR1.out (by rw [hW3]; exact b_alloc HB12.out _))
  have HNE : Hid (w2.heap.size ≠ w.heap.size) := Lib.hid (by have := HB1.out.size; have := HB12.out.size; have := HR1.out.1; omega)
  have hs23 : w2.heap.size < W3.heap.size := HI3.out.1
  clear hW3 c0'
  have c1' : W3.cell? ⟨b, o + 1, none⟩ = some (.string ⟨y.toArray⟩) := ((bcell HB3.out).1 b (o + 1) hb).trans c1x
  have hb3 : b < W3.heap.size := by have := HB3.out.size; omega
  have HC2 : Hid (∀ w', Below w.heap.size w w' → w'.cell? ⟨b, o + 1 + 1, none⟩ = some (.string ⟨y2.toArray⟩)) := Lib.hid (fun w' hw => ((bcell hw).1 b (o + 1 + 1) hb).trans c2x)
  obtain ⟨i0, i1, i2, i3, jf⟩ := blk4 HI3.out
  have iz := HI3.out.1
  obtain ⟨r0, r1, r2, r3, rf⟩ := blk4 HR3.out
  have rz := HR3.out.1
  go_wp2_with fail
  refine (HSA.out _).mono ?_
  rintro e w4 ⟨⟨x, rfl, hx⟩, rfl⟩
  go_upto_region 14 with fail
  refine wp_named ?_
  intro W4 hW4
  have HI4 : Hid (Blk W4 w2.heap.size [.int .i64 k, .int .u64 0, .int .i64 x, .int .i64 0]) := Lib.hid (by rw [hW4]; exact blk_set HI3.out 2 _)
  have HR4 : Hid (Blk W4 w.heap.size [.int .i64 0, .int .u64 0, .int .i64 0, .int .i64 0]) := Lib.hid (by rw [hW4]; exact blk_other HR3.out HNE.out _)
  have HB4 : Hid (Below w.heap.size w W4) := Lib.hid (by rw [hW4]; exact b_set HB3.out (by have := HB2.out.size; omega) _)
  clear hW4 i0 i1 i2 i3 jf iz r0 r1 r2 r3 rf rz c1'
  have c2' := HC2.out _ HB4.out
  have hb4 : b < W4.heap.size := by have := HB4.out.size; omega
  obtain ⟨i0, i1, i2, i3, jf⟩ := blk4 HI4.out
  have iz := HI4.out.1
  obtain ⟨r0, r1, r2, r3, rf⟩ := blk4 HR4.out
  have rz := HR4.out.1
  go_wp2_with fail
  refine (HSB.out _).mono ?_
  rintro e w5 ⟨⟨z, rfl, hz⟩, rfl⟩
  go_upto_region 16 with fail
  refine wp_named ?_
  intro W5 hW5
  have HI5 : Hid (Blk W5 w2.heap.size [.int .i64 k, .int .u64 0, .int .i64 x, .int .i64 z]) := Lib.hid (by rw [hW5]; exact blk_set HI4.out 3 _)
  have HR5 : Hid (Blk W5 w.heap.size [.int .i64 0, .int .u64 0, .int .i64 0, .int .i64 0]) := Lib.hid (by rw [hW5]; exact blk_other HR4.out HNE.out _)
  have HB5 : Hid (Below w.heap.size w W5) := Lib.hid (by rw [hW5]; exact b_set HB4.out (by have := HB2.out.size; omega) _)
  clear hW5 i0 i1 i2 i3 jf iz r0 r1 r2 r3 rf rz c2'
  obtain ⟨i0, i1, i2, i3, jf⟩ := blk4 HI5.out
  have iz := HI5.out.1
  obtain ⟨r0, r1, r2, r3, rf⟩ := blk4 HR5.out
  have rz := HR5.out.1
  go_wp2_with fail
  refine post_named ?_
  intro wF hwF
  have BF : Blk wF w.heap.size [.int .i64 k, .int .u64 0, .int .i64 x, .int .i64 z] := by rw [hwF]; exact blk_set (blk_set (blk_set (blk_set HR5.out 0 _) 1 _) 2 _) 3 _
  have FB : Below w.heap.size w wF := by rw [hwF]; exact b_set (b_set (b_set (b_set HB5.out (Nat.le_refl _) _) (Nat.le_refl _) _) (Nat.le_refl _) _) (Nat.le_refl _) _
  clear hwF
  obtain ⟨q0, q1, q2, q3, _⟩ := blk4 BF
  exact bodyPost_ret (v := .tuple #[.agg #[.int .i64 k, .int .u64 0, .int .i64 x, .int .i64 z], .bool true]) (by simp [results, Tryd.results90, go_sem, q0, q1, q2, q3]) rfl ⟨x, z, ⟨rfl, FB⟩, hx, hz⟩
theorem aone_any {v : Value} {a : List UInt8} {r : List (List UInt8)} (w : World) (h : ReadR strE w v (a :: r)) (hl : ∀ x ∈ a :: r, x.length ≤ 1000000) : Calls Tryd.prog 90 #[v] w fun e w' => OneEnd a r e ∧ Below w.heap.size w w' := by
  obtain ⟨b, o, cap, rfl, h1, h2, hb, h4⟩ := readR_pos h (by simp)
  have hcm := cap_le h2
  have hla := hl a (List.mem_cons_self ..)
  have c0 : w.cell? ⟨b, o, none⟩ = some (.string ⟨a.toArray⟩) := by
    have q := h4 0 (by simp) 0 (by decide)
    simpa [strE] using q
  have cr : ∀ j (hj : j < r.length), w.cell? ⟨b, o + 1 + j, none⟩ = some (.string ⟨r[j].toArray⟩) := fun j hj => by
    have q := h4 (j + 1) (by simp; omega) 0 (by decide)
    have e : o + ((j + 1) * strE.size + 0) = o + 1 + j := by show o + ((j + 1) * 1 + 0) = _; omega
    rw [e] at q
    simpa [strE] using q
  have hAt : ∀ (k : Nat) (okb : Bool) (sn : Int) (sx : Bool), (∀ w, Calls Tryd.prog 102 #[.string ⟨a.toArray⟩] w fun e w' => e = .returned (.tuple #[.int .i64 k, .bool okb]) ∧ Below w.heap.size w w') → (∀ w, Calls Tryd.prog 35 #[.int .i64 k] w fun e w' => e = .returned (.tuple #[.int .i64 sn, .bool sx, .bool true]) ∧ w = w') → OneAt w b o (a :: r).length r.length cap (cap - 1) a k okb sn sx := fun k okb sn sx q1 q2 => ⟨by simp, by simp, h1, hcm, rfl, hb, c0, q1, q2⟩
  cases hop : opL a with
  | none =>
    have e : instrL a r = none := by unfold instrL; rw [hop]
    have q := one_no (hAt 0 false 0 false (fun w => by
      have q := aop_any a w
      rw [hop] at q
      exact q) (fun w => shape_of 0 0 rfl (by decide) w))
    exact q.mono fun e' w' ⟨h1, h2⟩ => ⟨⟨_, _, _, _, by rw [e]; exact h1, fun i hi => by rw [e] at hi; cases hi⟩, h2⟩
  | some k =>
    have hk := (opL_bd hop).1
    have hO : ∀ w, Calls Tryd.prog 102 #[.string ⟨a.toArray⟩] w fun e w' => e = .returned (.tuple #[.int .i64 k, .bool true]) ∧ Below w.heap.size w w' := fun w => by
      have q := aop_any a w
      rw [hop] at q
      exact q
    have h4k := kind37 k hk
    have h5k := kind_le (k : Int)
    rcases (show kindOf (k : Int) = 0 ∨ kindOf (k : Int) = 1 ∨ kindOf (k : Int) = 2 ∨ kindOf (k : Int) = 3 by omega) with hκ | hκ | hκ | hκ
    · have hA := hAt k true 0 false hO (fun w => shape_of k 0 hκ (by decide) w)
      cases r with
      | nil =>
        have e : instrL a [] = some ⟨k, 0, 0, 0⟩ := by unfold instrL; rw [hop]; simp only [hκ]
        exact (one_0 hA rfl).mono fun e' w' ⟨h1, h2⟩ => ⟨⟨_, _, _, _, by rw [e]; exact h1, fun i hi => by rw [e] at hi; injection hi with hi; exact hi.symm⟩, h2⟩
      | cons x r =>
        have e : instrL a (x :: r) = none := by unfold instrL; rw [hop]; simp only [hκ]
        exact (one_len hA 0 rfl (by simp; omega)).mono fun e' w' ⟨h1, h2⟩ => ⟨⟨_, _, _, _, by rw [e]; exact h1, fun i hi => by rw [e] at hi; cases hi⟩, h2⟩
    · have hA := hAt k true 0 true hO (fun w => shape_of k 1 hκ (by decide) w)
      cases r with
      | nil =>
        have e : instrL a [] = none := by unfold instrL; rw [hop]; simp only [hκ]
        exact (one_x0 hA rfl).mono fun e' w' ⟨h1, h2⟩ => ⟨⟨_, _, _, _, by rw [e]; exact h1, fun i hi => by rw [e] at hi; cases hi⟩, h2⟩
      | cons x r =>
        have hx := hl x (by simp)
        have cx := cr 0 (by simp)
        have cx : w.cell? ⟨b, o + 1, none⟩ = some (.string ⟨x.toArray⟩) := cx
        cases hv : bitsL x with
        | none =>
          have e : instrL a (x :: r) = none := by
            unfold instrL; rw [hop]
            cases r with
            | nil => simp only [hκ, hv]; rfl
            | cons => simp only [hκ]
          exact (one_xbad hA hx cx (by simp) (by rw [hv]; rfl)).mono fun e' w' ⟨_, ⟨h1, h2⟩, _⟩ => ⟨⟨_, _, _, _, by rw [e]; exact h1, fun i hi => by rw [e] at hi; cases hi⟩, h2⟩
        | some u =>
          cases r with
          | nil =>
            have e : instrL a [x] = some ⟨k, (u : Int), 0, 0⟩ := by unfold instrL; rw [hop]; simp only [hκ, hv]; rfl
            exact (one_xok hA hx cx (by simp) (by rw [hv]; rfl) (by simp)).mono fun e' w' ⟨z, ⟨h1, h2⟩, h3⟩ => ⟨⟨_, _, _, _, by rw [e]; exact h1, fun i hi => by rw [e] at hi; injection hi with hi; rw [← hi, h3 u hv]⟩, h2⟩
          | cons y r =>
            have e : instrL a (x :: y :: r) = none := by unfold instrL; rw [hop]; simp only [hκ]
            exact (one_xmore hA hx cx (by simp) (by rw [hv]; rfl) (by simp)).mono fun e' w' ⟨_, ⟨h1, h2⟩, _⟩ => ⟨⟨_, _, _, _, by rw [e]; exact h1, fun i hi => by rw [e] at hi; cases hi⟩, h2⟩
    · have hA := hAt k true 1 false hO (fun w => shape_of k 2 hκ (by decide) w)
      match r, hA, cr, hl with
      | [], hA, cr, hl =>
        have e : instrL a [] = none := by unfold instrL; rw [hop]; simp only [hκ]
        exact (one_len hA 1 rfl (by simp)).mono fun e' w' ⟨h1, h2⟩ => ⟨⟨_, _, _, _, by rw [e]; exact h1, fun i hi => by rw [e] at hi; cases hi⟩, h2⟩
      | [x], hA, cr, hl =>
        have hx := hl x (by simp)
        have cx : w.cell? ⟨b, o + 1, none⟩ = some (.string ⟨x.toArray⟩) := cr 0 (by simp)
        cases hv : valL x with
        | none =>
          have e : instrL a [x] = none := by unfold instrL; rw [hop]; simp only [hκ, hv]; rfl
          exact (one_abad hA hx cx (by simp) (by simp) (by rw [hv]; rfl)).mono fun e' w' ⟨_, ⟨h1, h2⟩, _⟩ => ⟨⟨_, _, _, _, by rw [e]; exact h1, fun i hi => by rw [e] at hi; cases hi⟩, h2⟩
        | some u =>
          have e : instrL a [x] = some ⟨k, 0, (u : Int), 0⟩ := by unfold instrL; rw [hop]; simp only [hκ, hv]; rfl
          exact (one_aok hA hx cx (by simp) (by simp) (by rw [hv]; rfl)).mono fun e' w' ⟨z, ⟨h1, h2⟩, h3⟩ => ⟨⟨_, _, _, _, by rw [e]; exact h1, fun i hi => by rw [e] at hi; injection hi with hi; rw [← hi, h3 u hv]⟩, h2⟩
      | x :: y :: r, hA, cr, hl =>
        have e : instrL a (x :: y :: r) = none := by unfold instrL; rw [hop]; simp only [hκ]
        exact (one_len hA 1 rfl (by simp; omega)).mono fun e' w' ⟨h1, h2⟩ => ⟨⟨_, _, _, _, by rw [e]; exact h1, fun i hi => by rw [e] at hi; cases hi⟩, h2⟩
    · have hA := hAt k true 2 false hO (fun w => shape_of k 3 hκ (by decide) w)
      match r, hA, cr, hl with
      | [], hA, cr, hl =>
        have e : instrL a [] = none := by unfold instrL; rw [hop]; simp only [hκ]
        exact (one_len hA 2 rfl (by simp)).mono fun e' w' ⟨h1, h2⟩ => ⟨⟨_, _, _, _, by rw [e]; exact h1, fun i hi => by rw [e] at hi; cases hi⟩, h2⟩
      | [x], hA, cr, hl =>
        have e : instrL a [x] = none := by unfold instrL; rw [hop]; simp only [hκ]
        exact (one_len hA 2 rfl (by simp)).mono fun e' w' ⟨h1, h2⟩ => ⟨⟨_, _, _, _, by rw [e]; exact h1, fun i hi => by rw [e] at hi; cases hi⟩, h2⟩
      | [x, y], hA, cr, hl =>
        have hx := hl x (by simp)
        have hy := hl y (by simp)
        have cx : w.cell? ⟨b, o + 1, none⟩ = some (.string ⟨x.toArray⟩) := cr 0 (by simp)
        have cy : w.cell? ⟨b, o + 1 + 1, none⟩ = some (.string ⟨y.toArray⟩) := cr 1 (by simp)
        cases hv : valL x with
        | none =>
          have e : instrL a [x, y] = none := by unfold instrL; rw [hop]; simp only [hκ, hv]; rfl
          exact (one_bbad hA hx hy cx cy (by simp) (by simp) (by rw [hv]; rfl)).mono fun e' w' ⟨_, _, ⟨h1, h2⟩, _⟩ => ⟨⟨_, _, _, _, by rw [e]; exact h1, fun i hi => by rw [e] at hi; cases hi⟩, h2⟩
        | some u =>
          cases hv2 : valL y with
          | none =>
            have e : instrL a [x, y] = none := by unfold instrL; rw [hop]; simp only [hκ, hv, hv2]; rfl
            exact (one_bbad2 hA hx hy cx cy (by simp) (by simp) (by rw [hv]; rfl) (by rw [hv2]; rfl)).mono fun e' w' ⟨_, _, ⟨h1, h2⟩, _⟩ => ⟨⟨_, _, _, _, by rw [e]; exact h1, fun i hi => by rw [e] at hi; cases hi⟩, h2⟩
          | some u2 =>
            have e : instrL a [x, y] = some ⟨k, 0, (u : Int), (u2 : Int)⟩ := by unfold instrL; rw [hop]; simp only [hκ, hv, hv2]; rfl
            exact (one_bok hA hx hy cx cy (by simp) (by simp) (by rw [hv]; rfl) (by rw [hv2]; rfl)).mono fun e' w' ⟨z, z2, ⟨h1, h2⟩, h3, h4⟩ => ⟨⟨_, _, _, _, by rw [e]; exact h1, fun i hi => by rw [e] at hi; injection hi with hi; rw [← hi, h3 u hv, h4 u2 hv2]⟩, h2⟩
      | x :: y :: z :: r, hA, cr, hl =>
        have e : instrL a (x :: y :: z :: r) = none := by unfold instrL; rw [hop]; simp only [hκ]
        exact (one_len hA 2 rfl (by simp; omega)).mono fun e' w' ⟨h1, h2⟩ => ⟨⟨_, _, _, _, by rw [e]; exact h1, fun i hi => by rw [e] at hi; cases hi⟩, h2⟩
end Go.Proofs.YtedmjlhgpdeafaaDoor
