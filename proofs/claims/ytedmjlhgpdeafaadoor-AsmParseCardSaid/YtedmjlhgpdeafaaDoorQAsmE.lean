/- Layer 34: the document's Instr. Conditions: those stated. -/
import Derived.Test.YtedmjlhgpdeafaaDoorQAsmD
import Derived.Test.YtedmjlhgpdeafaaDoorQAsmQ
namespace Go.Proofs.YtedmjlhgpdeafaaDoor
open Go.RowKit
set_option linter.unusedVariables false
set_option linter.unusedSimpArgs false
def lastOp (a : List UInt8) : Nat → Int
  | 0 => -1
  | k + 1 => if nameL k = a then (k : Int) else lastOp a k
theorem name_op {a : List UInt8} {k : Nat} (hk : k < 37) (h : nameL k = a) : opL a = some k := by
  rw [← h]; exact opL_names ⟨k, hk⟩
theorem lastOp_none {a : List UInt8} (h : opL a = none) : ∀ n, n ≤ 37 → lastOp a n = -1
  | 0, _ => rfl
  | n + 1, hn => by
    unfold lastOp
    rw [if_neg (fun q => by rw [name_op (by omega) q] at h; cases h)]
    exact lastOp_none h n (by omega)
theorem lastOp_some {a : List UInt8} {j : Nat} (h : opL a = some j) : ∀ n, n ≤ 37 → lastOp a n = if j < n then (j : Int) else -1
  | 0, _ => rfl
  | n + 1, hn => by
    unfold lastOp
    by_cases q : nameL n = a
    · have e := name_op (by omega) q
      rw [h] at e
      injection e with e
      subst e
      rw [if_pos q, if_pos (by omega)]
    · have hj : j ≠ n := fun e => by subst e; exact q (opL_bd h).2
      rw [if_neg q, lastOp_some h n (by omega)]
      by_cases q2 : j < n
      · rw [if_pos q2, if_pos (by omega)]
      · rw [if_neg q2, if_neg (by omega)]
/-- Instr's memory: its result, its instruction, the names. -/
structure InAt (w0 w : World) (rb ib nb : Nat) (o x p q : Int) : Prop where
  i : Blk w ib [.int .i64 o, .int .u64 x, .int .i64 p, .int .i64 q]
  r : Blk w rb [.int .i64 0, .int .u64 0, .int .i64 0, .int .i64 0]
  n : ∀ k, k < 37 → w.cell? ⟨nb, k, none⟩ = some (.string ⟨(nameL k).toArray⟩)
  be : Below w0.heap.size w0 w
  nz : nb < w.heap.size
  ri : ib ≠ rb
  ni : nb ≠ ib
  lr : w0.heap.size ≤ rb
  li : w0.heap.size ≤ ib
theorem in_below {w0 w w' : World} {rb ib nb : Nat} {o x p q : Int} (h : InAt w0 w rb ib nb o x p q) (hb : Below w.heap.size w w') : InAt w0 w' rb ib nb o x p q :=
  ⟨blk_below h.i hb, blk_below h.r hb, fun k hk => ((bcell hb).1 _ _ h.nz).trans (h.n k hk), b_call h.be hb, Nat.lt_of_lt_of_le h.nz hb.size, h.ri, h.ni, h.lr, h.li⟩
theorem in_set {w0 w : World} {rb ib nb : Nat} {o x p q o' x' p' q' : Int} (h : InAt w0 w rb ib nb o x p q) (i : Nat) (v : Value) (hs : ([.int .i64 o, .int .u64 x, .int .i64 p, .int .i64 q] : List Value).set i v = [.int .i64 o', .int .u64 x', .int .i64 p', .int .i64 q']) : InAt w0 (w.setCell ⟨ib, i, none⟩ v) rb ib nb o' x' p' q' :=
  ⟨by rw [← hs]; exact blk_set h.i i v, blk_other h.r h.ri _, fun k hk => by rw [World.cell?_setCell_other _ _ _ _ (fun e => h.ni (by injection e with e _ _; exact e.symm))]; exact h.n k hk, b_set h.be h.li _, by simpa using h.nz, h.ri, h.ni, h.lr, h.li⟩
/-- What Instr is handed. -/
structure InIn (w : World) (b o n cap : Nat) (a : List UInt8) (κ : Nat) (op : Int) : Prop where
  n1 : 1 ≤ n
  nc : n ≤ cap
  cm : (cap : Int) ≤ 9223372036854775807
  hb : b < w.heap.size
  c0 : w.cell? ⟨b, o, none⟩ = some (.string ⟨a.toArray⟩)
  lo : lastOp a 37 = op
  kd : kindOf op = κ
set_option maxRecDepth 100000 in
set_option maxHeartbeats 4000000 in
theorem rin_no {w : World} {b o n cap : Nat} {a : List UInt8}  (h : InIn w b o n cap a 4 (-1)) : Calls Tryd.prog 69 #[.slice (some ⟨b, o, none⟩) n cap] w (RetOne (-1) 0 0 0 false w) := by
  have hn1 := h.n1
  have hnc := h.nc
  have hcm := h.cm
  have hb := h.hb
  have c0 := h.c0
  have HOP := Lib.hid h.lo
  have HKD := Lib.hid h.kd
  clear h
  have HC0 := Lib.hid (fun (w' : World) (hw : Below w.heap.size w w') => (And.intro (((bcell hw).1 b o hb).trans c0) (Nat.lt_of_lt_of_le hb hw.size) : w'.cell? ⟨b, o, none⟩ = some (.string ⟨a.toArray⟩) ∧ b < w'.heap.size))
  unfold RetOne
  have hn0 : (0 : Int) < n := by omega
  go_enter Tryd.func69, Tryd.ntmps69
  go_upto_region 2 with fail
  refine wp_named ?_
  intro W1 hW1
  have HI1 : Hid (Blk W1 (w.heap.size + 1) [.int .i64 (-1), .int .u64 0, .int .i64 0, .int .i64 0]) := Lib.hid (by
    have q := blk_new (w.alloc (.cells #[.int .i64 0, .int .u64 0, .int .i64 0, .int .i64 0] 42)) #[.int .i64 (-1), .int .u64 0, .int .i64 0, .int .i64 0] 42
    rw [World.size_alloc] at q
    rw [hW1]; exact q)
  have HR1 : Hid (Blk W1 w.heap.size [.int .i64 0, .int .u64 0, .int .i64 0, .int .i64 0]) := Lib.hid (by rw [hW1]; exact blk_alloc (blk_new _ _ _) _)
  have HB1 : Hid (Below w.heap.size w W1) := Lib.hid (by rw [hW1]; exact b_alloc (b_alloc (Below.refl _ _) _) _)
  clear hW1
  go_wp2_with fail
  refine (names_any _).mono ?_
  rintro e w2 ⟨rfl, hw2⟩
  have HN2 : Hid (InAt w w2 w.heap.size (w.heap.size + 1) W1.heap.size (lastOp a 0) 0 0 0) := Lib.hid (by
    rw [hw2]
    refine ⟨blk_alloc HI1.out _, blk_alloc HR1.out _, fun k hk => ?_, b_alloc HB1.out _, by simp, by omega, by have := HI1.out.1; omega, Nat.le_refl _, by omega⟩
    have q := (World.cell?_alloc_new W1 nameTab 9 k).trans (names_at k hk)
    rw [q]
    show some (Value.string (nameS k)) = some (.string ⟨(nameS k).data.toList.toArray⟩)
    rw [barr])
  have hz : b < w.heap.size := hb
  clear hw2 HI1 HR1 c0
  generalize W1.heap.size = nb at *
  go_wp2_with fail
  go_loopw [15] (fun i wr => ∃ k : Nat, k ≤ 37 ∧ i = .int .i64 k ∧ Hid (InAt w wr w.heap.size (w.heap.size + 1) nb (lastOp a k) 0 0 0)) (fun i _ => 37 - (intOf i).toNat)
  case atStart => exact ⟨0, Nat.zero_le _, rfl, HN2⟩
  case round =>
    obtain ⟨k, hk, rfl, HA⟩ := hrel
    have hk0 : (0 : Int) ≤ k := by omega
    have HC := Lib.hid HC0.out
    by_cases hlt : k < 37
    · have k37 : (k : Int) < 37 := by omega
      have c0 := (HC.out wr HA.out.be).1
      have cN := HA.out.n k hlt
      obtain ⟨i0, i1, i2, i3, jf⟩ := blk4 HA.out.i
      have iz := HA.out.i.1
      have nz := HA.out.nz
      cases hq : (nameL k == a) with
      | true =>
        have HL : Hid (lastOp a (k + 1) = (k : Int)) := Lib.hid (by show (if nameL k = a then _ else _) = _; rw [if_pos (by simpa using hq)])
        have HS := Lib.hid (in_set (o' := (k : Int)) (x' := 0) (p' := 0) (q' := 0) HA.out 0 (.int .i64 k) rfl)
        go_wp2_with fail
        go_roundw
        case rel => exact ⟨k + 1, by omega, by first | rfl | trivial | go_num, Lib.hid (by rw [HL.out]; exact HS.out)⟩
        case measure => simp [intOf]; omega
      | false =>
        have HL : Hid (lastOp a (k + 1) = lastOp a k) := Lib.hid (by show (if nameL k = a then _ else _) = _; rw [if_neg (by simpa using hq)])
        go_wp2_with fail
        go_roundw
        case rel => exact ⟨k + 1, by omega, by first | rfl | trivial | go_num, Lib.hid (by rw [HL.out]; exact HA.out)⟩
        case measure => simp [intOf]; omega
    · have hke : k = 37 := by omega
      subst hke
      have HA3 : Hid (InAt w wr w.heap.size (w.heap.size + 1) nb (-1) 0 0 0) := Lib.hid (by rw [← HOP.out]; exact HA.out)
      clear HA HN2
      obtain ⟨i0, i1, i2, i3, jf⟩ := blk4 HA3.out.i
      have iz := HA3.out.i.1
      have HT := Lib.hid (fun w => told_any (-1) w)
      rw [HKD.out] at HT
      go_wp2_with fail
      refine (HT.out _).mono ?_
      rintro e w4 ⟨rfl, hb4⟩
      have HA4 := Lib.hid (in_below HA3.out hb4)
      clear hb4 HA3 i0 i1 i2 i3 jf iz HT
      obtain ⟨i0, i1, i2, i3, jf⟩ := blk4 HA4.out.i
      have iz := HA4.out.i.1
      obtain ⟨r0, r1, r2, r3, rf⟩ := blk4 HA4.out.r
      have rz := HA4.out.r.1
      unfold tellS
      go_wp2_with fail
      refine post_named ?_
      intro wF hwF
      have BF : Blk wF w.heap.size [.int .i64 (-1), .int .u64 0, .int .i64 0, .int .i64 0] := by rw [hwF]; exact blk_set (blk_set (blk_set (blk_set HA4.out.r 0 _) 1 _) 2 _) 3 _
      have FB : Below w.heap.size w wF := by rw [hwF]; exact b_set (b_set (b_set (b_set HA4.out.be (Nat.le_refl _) _) (Nat.le_refl _) _) (Nat.le_refl _) _) (Nat.le_refl _) _
      clear hwF
      obtain ⟨q0, q1, q2, q3, _⟩ := blk4 BF
      exact bodyPost_ret (v := .tuple #[.agg #[.int .i64 (-1), .int .u64 0, .int .i64 0, .int .i64 0], .bool false]) (by simp [results, Tryd.results69, go_sem, q0, q1, q2, q3]) rfl ⟨rfl, FB⟩
set_option maxRecDepth 100000 in
set_option maxHeartbeats 4000000 in
theorem rin_len0 {w : World} {b o n cap : Nat} {a : List UInt8} {kk : Nat} (hne : ((n : Int) != 1) = true) (h : InIn w b o n cap a 0 (kk : Int)) : Calls Tryd.prog 69 #[.slice (some ⟨b, o, none⟩) n cap] w (RetOne kk 0 0 0 false w) := by
  have hn1 := h.n1
  have hnc := h.nc
  have hcm := h.cm
  have hb := h.hb
  have c0 := h.c0
  have HOP := Lib.hid h.lo
  have HKD := Lib.hid h.kd
  clear h
  have HC0 := Lib.hid (fun (w' : World) (hw : Below w.heap.size w w') => (And.intro (((bcell hw).1 b o hb).trans c0) (Nat.lt_of_lt_of_le hb hw.size) : w'.cell? ⟨b, o, none⟩ = some (.string ⟨a.toArray⟩) ∧ b < w'.heap.size))
  unfold RetOne
  have hn0 : (0 : Int) < n := by omega
  go_enter Tryd.func69, Tryd.ntmps69
  go_upto_region 2 with fail
  refine wp_named ?_
  intro W1 hW1
  have HI1 : Hid (Blk W1 (w.heap.size + 1) [.int .i64 (-1), .int .u64 0, .int .i64 0, .int .i64 0]) := Lib.hid (by
    have q := blk_new (w.alloc (.cells #[.int .i64 0, .int .u64 0, .int .i64 0, .int .i64 0] 42)) #[.int .i64 (-1), .int .u64 0, .int .i64 0, .int .i64 0] 42
    rw [World.size_alloc] at q
    rw [hW1]; exact q)
  have HR1 : Hid (Blk W1 w.heap.size [.int .i64 0, .int .u64 0, .int .i64 0, .int .i64 0]) := Lib.hid (by rw [hW1]; exact blk_alloc (blk_new _ _ _) _)
  have HB1 : Hid (Below w.heap.size w W1) := Lib.hid (by rw [hW1]; exact b_alloc (b_alloc (Below.refl _ _) _) _)
  clear hW1
  go_wp2_with fail
  refine (names_any _).mono ?_
  rintro e w2 ⟨rfl, hw2⟩
  have HN2 : Hid (InAt w w2 w.heap.size (w.heap.size + 1) W1.heap.size (lastOp a 0) 0 0 0) := Lib.hid (by
    rw [hw2]
    refine ⟨blk_alloc HI1.out _, blk_alloc HR1.out _, fun k hk => ?_, b_alloc HB1.out _, by simp, by omega, by have := HI1.out.1; omega, Nat.le_refl _, by omega⟩
    have q := (World.cell?_alloc_new W1 nameTab 9 k).trans (names_at k hk)
    rw [q]
    show some (Value.string (nameS k)) = some (.string ⟨(nameS k).data.toList.toArray⟩)
    rw [barr])
  have hz : b < w.heap.size := hb
  clear hw2 HI1 HR1 c0
  generalize W1.heap.size = nb at *
  go_wp2_with fail
  go_loopw [15] (fun i wr => ∃ k : Nat, k ≤ 37 ∧ i = .int .i64 k ∧ Hid (InAt w wr w.heap.size (w.heap.size + 1) nb (lastOp a k) 0 0 0)) (fun i _ => 37 - (intOf i).toNat)
  case atStart => exact ⟨0, Nat.zero_le _, rfl, HN2⟩
  case round =>
    obtain ⟨k, hk, rfl, HA⟩ := hrel
    have hk0 : (0 : Int) ≤ k := by omega
    have HC := Lib.hid HC0.out
    by_cases hlt : k < 37
    · have k37 : (k : Int) < 37 := by omega
      have c0 := (HC.out wr HA.out.be).1
      have cN := HA.out.n k hlt
      obtain ⟨i0, i1, i2, i3, jf⟩ := blk4 HA.out.i
      have iz := HA.out.i.1
      have nz := HA.out.nz
      cases hq : (nameL k == a) with
      | true =>
        have HL : Hid (lastOp a (k + 1) = (k : Int)) := Lib.hid (by show (if nameL k = a then _ else _) = _; rw [if_pos (by simpa using hq)])
        have HS := Lib.hid (in_set (o' := (k : Int)) (x' := 0) (p' := 0) (q' := 0) HA.out 0 (.int .i64 k) rfl)
        go_wp2_with fail
        go_roundw
        case rel => exact ⟨k + 1, by omega, by first | rfl | trivial | go_num, Lib.hid (by rw [HL.out]; exact HS.out)⟩
        case measure => simp [intOf]; omega
      | false =>
        have HL : Hid (lastOp a (k + 1) = lastOp a k) := Lib.hid (by show (if nameL k = a then _ else _) = _; rw [if_neg (by simpa using hq)])
        go_wp2_with fail
        go_roundw
        case rel => exact ⟨k + 1, by omega, by first | rfl | trivial | go_num, Lib.hid (by rw [HL.out]; exact HA.out)⟩
        case measure => simp [intOf]; omega
    · have hke : k = 37 := by omega
      subst hke
      have HA3 : Hid (InAt w wr w.heap.size (w.heap.size + 1) nb (kk : Int) 0 0 0) := Lib.hid (by rw [← HOP.out]; exact HA.out)
      clear HA HN2
      obtain ⟨i0, i1, i2, i3, jf⟩ := blk4 HA3.out.i
      have iz := HA3.out.i.1
      have HT := Lib.hid (fun w => told_any (kk : Int) w)
      rw [HKD.out] at HT
      go_wp2_with fail
      refine (HT.out _).mono ?_
      rintro e w4 ⟨rfl, hb4⟩
      have HA4 := Lib.hid (in_below HA3.out hb4)
      clear hb4 HA3 i0 i1 i2 i3 jf iz HT
      obtain ⟨i0, i1, i2, i3, jf⟩ := blk4 HA4.out.i
      have iz := HA4.out.i.1
      obtain ⟨r0, r1, r2, r3, rf⟩ := blk4 HA4.out.r
      have rz := HA4.out.r.1
      unfold tellS
      have hk0' : (0 : Int) ≤ (kk : Int) := by omega
      go_wp2_with fail
      refine post_named ?_
      intro wF hwF
      have BF : Blk wF w.heap.size [.int .i64 kk, .int .u64 0, .int .i64 0, .int .i64 0] := by rw [hwF]; exact blk_set (blk_set (blk_set (blk_set HA4.out.r 0 _) 1 _) 2 _) 3 _
      have FB : Below w.heap.size w wF := by rw [hwF]; exact b_set (b_set (b_set (b_set HA4.out.be (Nat.le_refl _) _) (Nat.le_refl _) _) (Nat.le_refl _) _) (Nat.le_refl _) _
      clear hwF
      obtain ⟨q0, q1, q2, q3, _⟩ := blk4 BF
      exact bodyPost_ret (v := .tuple #[.agg #[.int .i64 kk, .int .u64 0, .int .i64 0, .int .i64 0], .bool false]) (by simp [results, Tryd.results69, go_sem, q0, q1, q2, q3]) rfl ⟨rfl, FB⟩
set_option maxRecDepth 100000 in
set_option maxHeartbeats 4000000 in
theorem rin_len1 {w : World} {b o n cap : Nat} {a : List UInt8} {kk : Nat} (hne : ((n : Int) != 2) = true) (h : InIn w b o n cap a 1 (kk : Int)) : Calls Tryd.prog 69 #[.slice (some ⟨b, o, none⟩) n cap] w (RetOne kk 0 0 0 false w) := by
  have hn1 := h.n1
  have hnc := h.nc
  have hcm := h.cm
  have hb := h.hb
  have c0 := h.c0
  have HOP := Lib.hid h.lo
  have HKD := Lib.hid h.kd
  clear h
  have HC0 := Lib.hid (fun (w' : World) (hw : Below w.heap.size w w') => (And.intro (((bcell hw).1 b o hb).trans c0) (Nat.lt_of_lt_of_le hb hw.size) : w'.cell? ⟨b, o, none⟩ = some (.string ⟨a.toArray⟩) ∧ b < w'.heap.size))
  unfold RetOne
  have hn0 : (0 : Int) < n := by omega
  go_enter Tryd.func69, Tryd.ntmps69
  go_upto_region 2 with fail
  refine wp_named ?_
  intro W1 hW1
  have HI1 : Hid (Blk W1 (w.heap.size + 1) [.int .i64 (-1), .int .u64 0, .int .i64 0, .int .i64 0]) := Lib.hid (by
    have q := blk_new (w.alloc (.cells #[.int .i64 0, .int .u64 0, .int .i64 0, .int .i64 0] 42)) #[.int .i64 (-1), .int .u64 0, .int .i64 0, .int .i64 0] 42
    rw [World.size_alloc] at q
    rw [hW1]; exact q)
  have HR1 : Hid (Blk W1 w.heap.size [.int .i64 0, .int .u64 0, .int .i64 0, .int .i64 0]) := Lib.hid (by rw [hW1]; exact blk_alloc (blk_new _ _ _) _)
  have HB1 : Hid (Below w.heap.size w W1) := Lib.hid (by rw [hW1]; exact b_alloc (b_alloc (Below.refl _ _) _) _)
  clear hW1
  go_wp2_with fail
  refine (names_any _).mono ?_
  rintro e w2 ⟨rfl, hw2⟩
  have HN2 : Hid (InAt w w2 w.heap.size (w.heap.size + 1) W1.heap.size (lastOp a 0) 0 0 0) := Lib.hid (by
    rw [hw2]
    refine ⟨blk_alloc HI1.out _, blk_alloc HR1.out _, fun k hk => ?_, b_alloc HB1.out _, by simp, by omega, by have := HI1.out.1; omega, Nat.le_refl _, by omega⟩
    have q := (World.cell?_alloc_new W1 nameTab 9 k).trans (names_at k hk)
    rw [q]
    show some (Value.string (nameS k)) = some (.string ⟨(nameS k).data.toList.toArray⟩)
    rw [barr])
  have hz : b < w.heap.size := hb
  clear hw2 HI1 HR1 c0
  generalize W1.heap.size = nb at *
  go_wp2_with fail
  go_loopw [15] (fun i wr => ∃ k : Nat, k ≤ 37 ∧ i = .int .i64 k ∧ Hid (InAt w wr w.heap.size (w.heap.size + 1) nb (lastOp a k) 0 0 0)) (fun i _ => 37 - (intOf i).toNat)
  case atStart => exact ⟨0, Nat.zero_le _, rfl, HN2⟩
  case round =>
    obtain ⟨k, hk, rfl, HA⟩ := hrel
    have hk0 : (0 : Int) ≤ k := by omega
    have HC := Lib.hid HC0.out
    by_cases hlt : k < 37
    · have k37 : (k : Int) < 37 := by omega
      have c0 := (HC.out wr HA.out.be).1
      have cN := HA.out.n k hlt
      obtain ⟨i0, i1, i2, i3, jf⟩ := blk4 HA.out.i
      have iz := HA.out.i.1
      have nz := HA.out.nz
      cases hq : (nameL k == a) with
      | true =>
        have HL : Hid (lastOp a (k + 1) = (k : Int)) := Lib.hid (by show (if nameL k = a then _ else _) = _; rw [if_pos (by simpa using hq)])
        have HS := Lib.hid (in_set (o' := (k : Int)) (x' := 0) (p' := 0) (q' := 0) HA.out 0 (.int .i64 k) rfl)
        go_wp2_with fail
        go_roundw
        case rel => exact ⟨k + 1, by omega, by first | rfl | trivial | go_num, Lib.hid (by rw [HL.out]; exact HS.out)⟩
        case measure => simp [intOf]; omega
      | false =>
        have HL : Hid (lastOp a (k + 1) = lastOp a k) := Lib.hid (by show (if nameL k = a then _ else _) = _; rw [if_neg (by simpa using hq)])
        go_wp2_with fail
        go_roundw
        case rel => exact ⟨k + 1, by omega, by first | rfl | trivial | go_num, Lib.hid (by rw [HL.out]; exact HA.out)⟩
        case measure => simp [intOf]; omega
    · have hke : k = 37 := by omega
      subst hke
      have HA3 : Hid (InAt w wr w.heap.size (w.heap.size + 1) nb (kk : Int) 0 0 0) := Lib.hid (by rw [← HOP.out]; exact HA.out)
      clear HA HN2
      obtain ⟨i0, i1, i2, i3, jf⟩ := blk4 HA3.out.i
      have iz := HA3.out.i.1
      have HT := Lib.hid (fun w => told_any (kk : Int) w)
      rw [HKD.out] at HT
      go_wp2_with fail
      refine (HT.out _).mono ?_
      rintro e w4 ⟨rfl, hb4⟩
      have HA4 := Lib.hid (in_below HA3.out hb4)
      clear hb4 HA3 i0 i1 i2 i3 jf iz HT
      obtain ⟨i0, i1, i2, i3, jf⟩ := blk4 HA4.out.i
      have iz := HA4.out.i.1
      obtain ⟨r0, r1, r2, r3, rf⟩ := blk4 HA4.out.r
      have rz := HA4.out.r.1
      unfold tellS
      have hk0' : (0 : Int) ≤ (kk : Int) := by omega
      go_wp2_with fail
      refine post_named ?_
      intro wF hwF
      have BF : Blk wF w.heap.size [.int .i64 kk, .int .u64 0, .int .i64 0, .int .i64 0] := by rw [hwF]; exact blk_set (blk_set (blk_set (blk_set HA4.out.r 0 _) 1 _) 2 _) 3 _
      have FB : Below w.heap.size w wF := by rw [hwF]; exact b_set (b_set (b_set (b_set HA4.out.be (Nat.le_refl _) _) (Nat.le_refl _) _) (Nat.le_refl _) _) (Nat.le_refl _) _
      clear hwF
      obtain ⟨q0, q1, q2, q3, _⟩ := blk4 BF
      exact bodyPost_ret (v := .tuple #[.agg #[.int .i64 kk, .int .u64 0, .int .i64 0, .int .i64 0], .bool false]) (by simp [results, Tryd.results69, go_sem, q0, q1, q2, q3]) rfl ⟨rfl, FB⟩
set_option maxRecDepth 100000 in
set_option maxHeartbeats 4000000 in
theorem rin_len2 {w : World} {b o n cap : Nat} {a : List UInt8} {kk : Nat} (hne : ((n : Int) != 2) = true) (h : InIn w b o n cap a 2 (kk : Int)) : Calls Tryd.prog 69 #[.slice (some ⟨b, o, none⟩) n cap] w (RetOne kk 0 0 0 false w) := by
  have hn1 := h.n1
  have hnc := h.nc
  have hcm := h.cm
  have hb := h.hb
  have c0 := h.c0
  have HOP := Lib.hid h.lo
  have HKD := Lib.hid h.kd
  clear h
  have HC0 := Lib.hid (fun (w' : World) (hw : Below w.heap.size w w') => (And.intro (((bcell hw).1 b o hb).trans c0) (Nat.lt_of_lt_of_le hb hw.size) : w'.cell? ⟨b, o, none⟩ = some (.string ⟨a.toArray⟩) ∧ b < w'.heap.size))
  unfold RetOne
  have hn0 : (0 : Int) < n := by omega
  go_enter Tryd.func69, Tryd.ntmps69
  go_upto_region 2 with fail
  refine wp_named ?_
  intro W1 hW1
  have HI1 : Hid (Blk W1 (w.heap.size + 1) [.int .i64 (-1), .int .u64 0, .int .i64 0, .int .i64 0]) := Lib.hid (by
    have q := blk_new (w.alloc (.cells #[.int .i64 0, .int .u64 0, .int .i64 0, .int .i64 0] 42)) #[.int .i64 (-1), .int .u64 0, .int .i64 0, .int .i64 0] 42
    rw [World.size_alloc] at q
    rw [hW1]; exact q)
  have HR1 : Hid (Blk W1 w.heap.size [.int .i64 0, .int .u64 0, .int .i64 0, .int .i64 0]) := Lib.hid (by rw [hW1]; exact blk_alloc (blk_new _ _ _) _)
  have HB1 : Hid (Below w.heap.size w W1) := Lib.hid (by rw [hW1]; exact b_alloc (b_alloc (Below.refl _ _) _) _)
  clear hW1
  go_wp2_with fail
  refine (names_any _).mono ?_
  rintro e w2 ⟨rfl, hw2⟩
  have HN2 : Hid (InAt w w2 w.heap.size (w.heap.size + 1) W1.heap.size (lastOp a 0) 0 0 0) := Lib.hid (by
    rw [hw2]
    refine ⟨blk_alloc HI1.out _, blk_alloc HR1.out _, fun k hk => ?_, b_alloc HB1.out _, by simp, by omega, by have := HI1.out.1; omega, Nat.le_refl _, by omega⟩
    have q := (World.cell?_alloc_new W1 nameTab 9 k).trans (names_at k hk)
    rw [q]
    show some (Value.string (nameS k)) = some (.string ⟨(nameS k).data.toList.toArray⟩)
    rw [barr])
  have hz : b < w.heap.size := hb
  clear hw2 HI1 HR1 c0
  generalize W1.heap.size = nb at *
  go_wp2_with fail
  go_loopw [15] (fun i wr => ∃ k : Nat, k ≤ 37 ∧ i = .int .i64 k ∧ Hid (InAt w wr w.heap.size (w.heap.size + 1) nb (lastOp a k) 0 0 0)) (fun i _ => 37 - (intOf i).toNat)
  case atStart => exact ⟨0, Nat.zero_le _, rfl, HN2⟩
  case round =>
    obtain ⟨k, hk, rfl, HA⟩ := hrel
    have hk0 : (0 : Int) ≤ k := by omega
    have HC := Lib.hid HC0.out
    by_cases hlt : k < 37
    · have k37 : (k : Int) < 37 := by omega
      have c0 := (HC.out wr HA.out.be).1
      have cN := HA.out.n k hlt
      obtain ⟨i0, i1, i2, i3, jf⟩ := blk4 HA.out.i
      have iz := HA.out.i.1
      have nz := HA.out.nz
      cases hq : (nameL k == a) with
      | true =>
        have HL : Hid (lastOp a (k + 1) = (k : Int)) := Lib.hid (by show (if nameL k = a then _ else _) = _; rw [if_pos (by simpa using hq)])
        have HS := Lib.hid (in_set (o' := (k : Int)) (x' := 0) (p' := 0) (q' := 0) HA.out 0 (.int .i64 k) rfl)
        go_wp2_with fail
        go_roundw
        case rel => exact ⟨k + 1, by omega, by first | rfl | trivial | go_num, Lib.hid (by rw [HL.out]; exact HS.out)⟩
        case measure => simp [intOf]; omega
      | false =>
        have HL : Hid (lastOp a (k + 1) = lastOp a k) := Lib.hid (by show (if nameL k = a then _ else _) = _; rw [if_neg (by simpa using hq)])
        go_wp2_with fail
        go_roundw
        case rel => exact ⟨k + 1, by omega, by first | rfl | trivial | go_num, Lib.hid (by rw [HL.out]; exact HA.out)⟩
        case measure => simp [intOf]; omega
    · have hke : k = 37 := by omega
      subst hke
      have HA3 : Hid (InAt w wr w.heap.size (w.heap.size + 1) nb (kk : Int) 0 0 0) := Lib.hid (by rw [← HOP.out]; exact HA.out)
      clear HA HN2
      obtain ⟨i0, i1, i2, i3, jf⟩ := blk4 HA3.out.i
      have iz := HA3.out.i.1
      have HT := Lib.hid (fun w => told_any (kk : Int) w)
      rw [HKD.out] at HT
      go_wp2_with fail
      refine (HT.out _).mono ?_
      rintro e w4 ⟨rfl, hb4⟩
      have HA4 := Lib.hid (in_below HA3.out hb4)
      clear hb4 HA3 i0 i1 i2 i3 jf iz HT
      obtain ⟨i0, i1, i2, i3, jf⟩ := blk4 HA4.out.i
      have iz := HA4.out.i.1
      obtain ⟨r0, r1, r2, r3, rf⟩ := blk4 HA4.out.r
      have rz := HA4.out.r.1
      unfold tellS
      have hk0' : (0 : Int) ≤ (kk : Int) := by omega
      go_wp2_with fail
      refine post_named ?_
      intro wF hwF
      have BF : Blk wF w.heap.size [.int .i64 kk, .int .u64 0, .int .i64 0, .int .i64 0] := by rw [hwF]; exact blk_set (blk_set (blk_set (blk_set HA4.out.r 0 _) 1 _) 2 _) 3 _
      have FB : Below w.heap.size w wF := by rw [hwF]; exact b_set (b_set (b_set (b_set HA4.out.be (Nat.le_refl _) _) (Nat.le_refl _) _) (Nat.le_refl _) _) (Nat.le_refl _) _
      clear hwF
      obtain ⟨q0, q1, q2, q3, _⟩ := blk4 BF
      exact bodyPost_ret (v := .tuple #[.agg #[.int .i64 kk, .int .u64 0, .int .i64 0, .int .i64 0], .bool false]) (by simp [results, Tryd.results69, go_sem, q0, q1, q2, q3]) rfl ⟨rfl, FB⟩
set_option maxRecDepth 100000 in
set_option maxHeartbeats 4000000 in
theorem rin_len3 {w : World} {b o n cap : Nat} {a : List UInt8} {kk : Nat} (hne : ((n : Int) != 3) = true) (h : InIn w b o n cap a 3 (kk : Int)) : Calls Tryd.prog 69 #[.slice (some ⟨b, o, none⟩) n cap] w (RetOne kk 0 0 0 false w) := by
  have hn1 := h.n1
  have hnc := h.nc
  have hcm := h.cm
  have hb := h.hb
  have c0 := h.c0
  have HOP := Lib.hid h.lo
  have HKD := Lib.hid h.kd
  clear h
  have HC0 := Lib.hid (fun (w' : World) (hw : Below w.heap.size w w') => (And.intro (((bcell hw).1 b o hb).trans c0) (Nat.lt_of_lt_of_le hb hw.size) : w'.cell? ⟨b, o, none⟩ = some (.string ⟨a.toArray⟩) ∧ b < w'.heap.size))
  unfold RetOne
  have hn0 : (0 : Int) < n := by omega
  go_enter Tryd.func69, Tryd.ntmps69
  go_upto_region 2 with fail
  refine wp_named ?_
  intro W1 hW1
  have HI1 : Hid (Blk W1 (w.heap.size + 1) [.int .i64 (-1), .int .u64 0, .int .i64 0, .int .i64 0]) := Lib.hid (by
    have q := blk_new (w.alloc (.cells #[.int .i64 0, .int .u64 0, .int .i64 0, .int .i64 0] 42)) #[.int .i64 (-1), .int .u64 0, .int .i64 0, .int .i64 0] 42
    rw [World.size_alloc] at q
    rw [hW1]; exact q)
  have HR1 : Hid (Blk W1 w.heap.size [.int .i64 0, .int .u64 0, .int .i64 0, .int .i64 0]) := Lib.hid (by rw [hW1]; exact blk_alloc (blk_new _ _ _) _)
  have HB1 : Hid (Below w.heap.size w W1) := Lib.hid (by rw [hW1]; exact b_alloc (b_alloc (Below.refl _ _) _) _)
  clear hW1
  go_wp2_with fail
  refine (names_any _).mono ?_
  rintro e w2 ⟨rfl, hw2⟩
  have HN2 : Hid (InAt w w2 w.heap.size (w.heap.size + 1) W1.heap.size (lastOp a 0) 0 0 0) := Lib.hid (by
    rw [hw2]
    refine ⟨blk_alloc HI1.out _, blk_alloc HR1.out _, fun k hk => ?_, b_alloc HB1.out _, by simp, by omega, by have := HI1.out.1; omega, Nat.le_refl _, by omega⟩
    have q := (World.cell?_alloc_new W1 nameTab 9 k).trans (names_at k hk)
    rw [q]
    show some (Value.string (nameS k)) = some (.string ⟨(nameS k).data.toList.toArray⟩)
    rw [barr])
  have hz : b < w.heap.size := hb
  clear hw2 HI1 HR1 c0
  generalize W1.heap.size = nb at *
  go_wp2_with fail
  go_loopw [15] (fun i wr => ∃ k : Nat, k ≤ 37 ∧ i = .int .i64 k ∧ Hid (InAt w wr w.heap.size (w.heap.size + 1) nb (lastOp a k) 0 0 0)) (fun i _ => 37 - (intOf i).toNat)
  case atStart => exact ⟨0, Nat.zero_le _, rfl, HN2⟩
  case round =>
    obtain ⟨k, hk, rfl, HA⟩ := hrel
    have hk0 : (0 : Int) ≤ k := by omega
    have HC := Lib.hid HC0.out
    by_cases hlt : k < 37
    · have k37 : (k : Int) < 37 := by omega
      have c0 := (HC.out wr HA.out.be).1
      have cN := HA.out.n k hlt
      obtain ⟨i0, i1, i2, i3, jf⟩ := blk4 HA.out.i
      have iz := HA.out.i.1
      have nz := HA.out.nz
      cases hq : (nameL k == a) with
      | true =>
        have HL : Hid (lastOp a (k + 1) = (k : Int)) := Lib.hid (by show (if nameL k = a then _ else _) = _; rw [if_pos (by simpa using hq)])
        have HS := Lib.hid (in_set (o' := (k : Int)) (x' := 0) (p' := 0) (q' := 0) HA.out 0 (.int .i64 k) rfl)
        go_wp2_with fail
        go_roundw
        case rel => exact ⟨k + 1, by omega, by first | rfl | trivial | go_num, Lib.hid (by rw [HL.out]; exact HS.out)⟩
        case measure => simp [intOf]; omega
      | false =>
        have HL : Hid (lastOp a (k + 1) = lastOp a k) := Lib.hid (by show (if nameL k = a then _ else _) = _; rw [if_neg (by simpa using hq)])
        go_wp2_with fail
        go_roundw
        case rel => exact ⟨k + 1, by omega, by first | rfl | trivial | go_num, Lib.hid (by rw [HL.out]; exact HA.out)⟩
        case measure => simp [intOf]; omega
    · have hke : k = 37 := by omega
      subst hke
      have HA3 : Hid (InAt w wr w.heap.size (w.heap.size + 1) nb (kk : Int) 0 0 0) := Lib.hid (by rw [← HOP.out]; exact HA.out)
      clear HA HN2
      obtain ⟨i0, i1, i2, i3, jf⟩ := blk4 HA3.out.i
      have iz := HA3.out.i.1
      have HT := Lib.hid (fun w => told_any (kk : Int) w)
      rw [HKD.out] at HT
      go_wp2_with fail
      refine (HT.out _).mono ?_
      rintro e w4 ⟨rfl, hb4⟩
      have HA4 := Lib.hid (in_below HA3.out hb4)
      clear hb4 HA3 i0 i1 i2 i3 jf iz HT
      obtain ⟨i0, i1, i2, i3, jf⟩ := blk4 HA4.out.i
      have iz := HA4.out.i.1
      obtain ⟨r0, r1, r2, r3, rf⟩ := blk4 HA4.out.r
      have rz := HA4.out.r.1
      unfold tellS
      have hk0' : (0 : Int) ≤ (kk : Int) := by omega
      go_wp2_with fail
      refine post_named ?_
      intro wF hwF
      have BF : Blk wF w.heap.size [.int .i64 kk, .int .u64 0, .int .i64 0, .int .i64 0] := by rw [hwF]; exact blk_set (blk_set (blk_set (blk_set HA4.out.r 0 _) 1 _) 2 _) 3 _
      have FB : Below w.heap.size w wF := by rw [hwF]; exact b_set (b_set (b_set (b_set HA4.out.be (Nat.le_refl _) _) (Nat.le_refl _) _) (Nat.le_refl _) _) (Nat.le_refl _) _
      clear hwF
      obtain ⟨q0, q1, q2, q3, _⟩ := blk4 BF
      exact bodyPost_ret (v := .tuple #[.agg #[.int .i64 kk, .int .u64 0, .int .i64 0, .int .i64 0], .bool false]) (by simp [results, Tryd.results69, go_sem, q0, q1, q2, q3]) rfl ⟨rfl, FB⟩
set_option maxRecDepth 100000 in
set_option maxHeartbeats 4000000 in
theorem rin_0 {w : World} {b o n cap : Nat} {a : List UInt8} {kk : Nat} (hne : ((n : Int) != 1) = false) (h : InIn w b o n cap a 0 (kk : Int)) : Calls Tryd.prog 69 #[.slice (some ⟨b, o, none⟩) n cap] w (RetOne kk 0 0 0 true w) := by
  have hn1 := h.n1
  have hnc := h.nc
  have hcm := h.cm
  have hb := h.hb
  have c0 := h.c0
  have HOP := Lib.hid h.lo
  have HKD := Lib.hid h.kd
  clear h
  have HC0 := Lib.hid (fun (w' : World) (hw : Below w.heap.size w w') => (And.intro (((bcell hw).1 b o hb).trans c0) (Nat.lt_of_lt_of_le hb hw.size) : w'.cell? ⟨b, o, none⟩ = some (.string ⟨a.toArray⟩) ∧ b < w'.heap.size))
  unfold RetOne
  have hn0 : (0 : Int) < n := by omega
  go_enter Tryd.func69, Tryd.ntmps69
  go_upto_region 2 with fail
  refine wp_named ?_
  intro W1 hW1
  have HI1 : Hid (Blk W1 (w.heap.size + 1) [.int .i64 (-1), .int .u64 0, .int .i64 0, .int .i64 0]) := Lib.hid (by
    have q := blk_new (w.alloc (.cells #[.int .i64 0, .int .u64 0, .int .i64 0, .int .i64 0] 42)) #[.int .i64 (-1), .int .u64 0, .int .i64 0, .int .i64 0] 42
    rw [World.size_alloc] at q
    rw [hW1]; exact q)
  have HR1 : Hid (Blk W1 w.heap.size [.int .i64 0, .int .u64 0, .int .i64 0, .int .i64 0]) := Lib.hid (by rw [hW1]; exact blk_alloc (blk_new _ _ _) _)
  have HB1 : Hid (Below w.heap.size w W1) := Lib.hid (by rw [hW1]; exact b_alloc (b_alloc (Below.refl _ _) _) _)
  clear hW1
  go_wp2_with fail
  refine (names_any _).mono ?_
  rintro e w2 ⟨rfl, hw2⟩
  have HN2 : Hid (InAt w w2 w.heap.size (w.heap.size + 1) W1.heap.size (lastOp a 0) 0 0 0) := Lib.hid (by
    rw [hw2]
    refine ⟨blk_alloc HI1.out _, blk_alloc HR1.out _, fun k hk => ?_, b_alloc HB1.out _, by simp, by omega, by have := HI1.out.1; omega, Nat.le_refl _, by omega⟩
    have q := (World.cell?_alloc_new W1 nameTab 9 k).trans (names_at k hk)
    rw [q]
    show some (Value.string (nameS k)) = some (.string ⟨(nameS k).data.toList.toArray⟩)
    rw [barr])
  have hz : b < w.heap.size := hb
  clear hw2 HI1 HR1 c0
  generalize W1.heap.size = nb at *
  go_wp2_with fail
  go_loopw [15] (fun i wr => ∃ k : Nat, k ≤ 37 ∧ i = .int .i64 k ∧ Hid (InAt w wr w.heap.size (w.heap.size + 1) nb (lastOp a k) 0 0 0)) (fun i _ => 37 - (intOf i).toNat)
  case atStart => exact ⟨0, Nat.zero_le _, rfl, HN2⟩
  case round =>
    obtain ⟨k, hk, rfl, HA⟩ := hrel
    have hk0 : (0 : Int) ≤ k := by omega
    have HC := Lib.hid HC0.out
    by_cases hlt : k < 37
    · have k37 : (k : Int) < 37 := by omega
      have c0 := (HC.out wr HA.out.be).1
      have cN := HA.out.n k hlt
      obtain ⟨i0, i1, i2, i3, jf⟩ := blk4 HA.out.i
      have iz := HA.out.i.1
      have nz := HA.out.nz
      cases hq : (nameL k == a) with
      | true =>
        have HL : Hid (lastOp a (k + 1) = (k : Int)) := Lib.hid (by show (if nameL k = a then _ else _) = _; rw [if_pos (by simpa using hq)])
        have HS := Lib.hid (in_set (o' := (k : Int)) (x' := 0) (p' := 0) (q' := 0) HA.out 0 (.int .i64 k) rfl)
        go_wp2_with fail
        go_roundw
        case rel => exact ⟨k + 1, by omega, by first | rfl | trivial | go_num, Lib.hid (by rw [HL.out]; exact HS.out)⟩
        case measure => simp [intOf]; omega
      | false =>
        have HL : Hid (lastOp a (k + 1) = lastOp a k) := Lib.hid (by show (if nameL k = a then _ else _) = _; rw [if_neg (by simpa using hq)])
        go_wp2_with fail
        go_roundw
        case rel => exact ⟨k + 1, by omega, by first | rfl | trivial | go_num, Lib.hid (by rw [HL.out]; exact HA.out)⟩
        case measure => simp [intOf]; omega
    · have hke : k = 37 := by omega
      subst hke
      have HA3 : Hid (InAt w wr w.heap.size (w.heap.size + 1) nb (kk : Int) 0 0 0) := Lib.hid (by rw [← HOP.out]; exact HA.out)
      clear HA HN2
      obtain ⟨i0, i1, i2, i3, jf⟩ := blk4 HA3.out.i
      have iz := HA3.out.i.1
      have HT := Lib.hid (fun w => told_any (kk : Int) w)
      rw [HKD.out] at HT
      go_wp2_with fail
      refine (HT.out _).mono ?_
      rintro e w4 ⟨rfl, hb4⟩
      have HA4 := Lib.hid (in_below HA3.out hb4)
      clear hb4 HA3 i0 i1 i2 i3 jf iz HT
      obtain ⟨i0, i1, i2, i3, jf⟩ := blk4 HA4.out.i
      have iz := HA4.out.i.1
      obtain ⟨r0, r1, r2, r3, rf⟩ := blk4 HA4.out.r
      have rz := HA4.out.r.1
      unfold tellS
      have hk0' : (0 : Int) ≤ (kk : Int) := by omega
      go_wp2_with fail
      go_loopw [8] (fun i wr => i = .int .i64 0 ∧ Hid (InAt w wr w.heap.size (w.heap.size + 1) nb kk 0 0 0)) (fun i _ => 1 - (intOf i).toNat)
      case atStart => exact ⟨rfl, HA4⟩
      case round =>
        clear i0 i1 i2 i3 jf iz r0 r1 r2 r3 rf rz
        rcases hrel with ⟨rfl, HQ⟩
        · skip
          obtain ⟨r0, r1, r2, r3, rf⟩ := blk4 HQ.out.r
          have rz := HQ.out.r.1
          obtain ⟨i0, i1, i2, i3, jf⟩ := blk4 HQ.out.i
          have iz := HQ.out.i.1
          go_wp2_with fail
          refine post_named ?_
          intro wF hwF
          have BF : Blk wF w.heap.size [.int .i64 kk, .int .u64 0, .int .i64 0, .int .i64 0] := by rw [hwF]; exact blk_set (blk_set (blk_set (blk_set HQ.out.r 0 _) 1 _) 2 _) 3 _
          have FB : Below w.heap.size w wF := by rw [hwF]; exact b_set (b_set (b_set (b_set HQ.out.be (Nat.le_refl _) _) (Nat.le_refl _) _) (Nat.le_refl _) _) (Nat.le_refl _) _
          clear hwF
          obtain ⟨q0, q1, q2, q3, _⟩ := blk4 BF
          exact bodyPost_ret (v := .tuple #[.agg #[.int .i64 kk, .int .u64 0, .int .i64 0, .int .i64 0], .bool true]) (by simp [results, Tryd.results69, go_sem, q0, q1, q2, q3]) rfl ⟨rfl, FB⟩
set_option maxRecDepth 100000 in
set_option maxHeartbeats 4000000 in
theorem rin_1 {w : World} {b o n cap : Nat} {a : List UInt8} {v : Nat} {kk : Nat} {y : List UInt8} (hyl : y.length ≤ 1000000) (cy : w.cell? ⟨b, o + 1, none⟩ = some (.string ⟨y.toArray⟩)) (hne : ((n : Int) != 2) = false) (hby : bitsL y = some v) (h : InIn w b o n cap a 1 (kk : Int)) : Calls Tryd.prog 69 #[.slice (some ⟨b, o, none⟩) n cap] w (RetOne kk v 0 0 true w) := by
  have hn1 := h.n1
  have hnc := h.nc
  have hcm := h.cm
  have hb := h.hb
  have c0 := h.c0
  have HOP := Lib.hid h.lo
  have HKD := Lib.hid h.kd
  clear h
  have hn2 : (1 : Int) < n := by have q : (n : Int) = 2 := (by simpa using hne); omega
  obtain ⟨vvy, hvy⟩ : ∃ zz : Int, zz = (match valL y with | some n => (n : Int) | none => -1) := ⟨_, rfl⟩
  have HVy : Hid (∀ w, Calls Tryd.prog 68 #[.string ⟨y.toArray⟩] w fun e w' => e = .returned (.int .i64 vvy) ∧ Below w.heap.size w w') := Lib.hid (fun w => by rw [hvy]; exact rval_any y w hyl)
  have HBy : Hid (∀ w, Calls Tryd.prog 86 #[.string ⟨y.toArray⟩] w fun e w' => (∃ x : Int, e = .returned (.tuple #[.int .u64 x, .bool (bitsL y).isSome]) ∧ ∀ n, bitsL y = some n → x = (n : Int)) ∧ w = w') := Lib.hid (fun w => rbits_any y w hyl)
  have HCy := Lib.hid (fun (w' : World) (hw : Below w.heap.size w w') => (And.intro (((bcell hw).1 b (o + 1) hb).trans cy) (Nat.lt_of_lt_of_le hb hw.size) : w'.cell? ⟨b, o + 1, none⟩ = some (.string ⟨y.toArray⟩) ∧ b < w'.heap.size))
  clear cy
  clear hvy
  have HC0 := Lib.hid (fun (w' : World) (hw : Below w.heap.size w w') => (And.intro (((bcell hw).1 b o hb).trans c0) (Nat.lt_of_lt_of_le hb hw.size) : w'.cell? ⟨b, o, none⟩ = some (.string ⟨a.toArray⟩) ∧ b < w'.heap.size))
  unfold RetOne
  have hn0 : (0 : Int) < n := by omega
  go_enter Tryd.func69, Tryd.ntmps69
  go_upto_region 2 with fail
  refine wp_named ?_
  intro W1 hW1
  have HI1 : Hid (Blk W1 (w.heap.size + 1) [.int .i64 (-1), .int .u64 0, .int .i64 0, .int .i64 0]) := Lib.hid (by
    have q := blk_new (w.alloc (.cells #[.int .i64 0, .int .u64 0, .int .i64 0, .int .i64 0] 42)) #[.int .i64 (-1), .int .u64 0, .int .i64 0, .int .i64 0] 42
    rw [World.size_alloc] at q
    rw [hW1]; exact q)
  have HR1 : Hid (Blk W1 w.heap.size [.int .i64 0, .int .u64 0, .int .i64 0, .int .i64 0]) := Lib.hid (by rw [hW1]; exact blk_alloc (blk_new _ _ _) _)
  have HB1 : Hid (Below w.heap.size w W1) := Lib.hid (by rw [hW1]; exact b_alloc (b_alloc (Below.refl _ _) _) _)
  clear hW1
  go_wp2_with fail
  refine (names_any _).mono ?_
  rintro e w2 ⟨rfl, hw2⟩
  have HN2 : Hid (InAt w w2 w.heap.size (w.heap.size + 1) W1.heap.size (lastOp a 0) 0 0 0) := Lib.hid (by
    rw [hw2]
    refine ⟨blk_alloc HI1.out _, blk_alloc HR1.out _, fun k hk => ?_, b_alloc HB1.out _, by simp, by omega, by have := HI1.out.1; omega, Nat.le_refl _, by omega⟩
    have q := (World.cell?_alloc_new W1 nameTab 9 k).trans (names_at k hk)
    rw [q]
    show some (Value.string (nameS k)) = some (.string ⟨(nameS k).data.toList.toArray⟩)
    rw [barr])
  have hz : b < w.heap.size := hb
  clear hw2 HI1 HR1 c0
  generalize W1.heap.size = nb at *
  go_wp2_with fail
  go_loopw [15] (fun i wr => ∃ k : Nat, k ≤ 37 ∧ i = .int .i64 k ∧ Hid (InAt w wr w.heap.size (w.heap.size + 1) nb (lastOp a k) 0 0 0)) (fun i _ => 37 - (intOf i).toNat)
  case atStart => exact ⟨0, Nat.zero_le _, rfl, HN2⟩
  case round =>
    obtain ⟨k, hk, rfl, HA⟩ := hrel
    have hk0 : (0 : Int) ≤ k := by omega
    have HC := Lib.hid HC0.out
    by_cases hlt : k < 37
    · have k37 : (k : Int) < 37 := by omega
      have c0 := (HC.out wr HA.out.be).1
      have cN := HA.out.n k hlt
      obtain ⟨i0, i1, i2, i3, jf⟩ := blk4 HA.out.i
      have iz := HA.out.i.1
      have nz := HA.out.nz
      cases hq : (nameL k == a) with
      | true =>
        have HL : Hid (lastOp a (k + 1) = (k : Int)) := Lib.hid (by show (if nameL k = a then _ else _) = _; rw [if_pos (by simpa using hq)])
        have HS := Lib.hid (in_set (o' := (k : Int)) (x' := 0) (p' := 0) (q' := 0) HA.out 0 (.int .i64 k) rfl)
        go_wp2_with fail
        go_roundw
        case rel => exact ⟨k + 1, by omega, by first | rfl | trivial | go_num, Lib.hid (by rw [HL.out]; exact HS.out)⟩
        case measure => simp [intOf]; omega
      | false =>
        have HL : Hid (lastOp a (k + 1) = lastOp a k) := Lib.hid (by show (if nameL k = a then _ else _) = _; rw [if_neg (by simpa using hq)])
        go_wp2_with fail
        go_roundw
        case rel => exact ⟨k + 1, by omega, by first | rfl | trivial | go_num, Lib.hid (by rw [HL.out]; exact HA.out)⟩
        case measure => simp [intOf]; omega
    · have hke : k = 37 := by omega
      subst hke
      have HA3 : Hid (InAt w wr w.heap.size (w.heap.size + 1) nb (kk : Int) 0 0 0) := Lib.hid (by rw [← HOP.out]; exact HA.out)
      clear HA HN2
      obtain ⟨i0, i1, i2, i3, jf⟩ := blk4 HA3.out.i
      have iz := HA3.out.i.1
      have HT := Lib.hid (fun w => told_any (kk : Int) w)
      rw [HKD.out] at HT
      go_wp2_with fail
      refine (HT.out _).mono ?_
      rintro e w4 ⟨rfl, hb4⟩
      have HA4 := Lib.hid (in_below HA3.out hb4)
      clear hb4 HA3 i0 i1 i2 i3 jf iz HT
      obtain ⟨i0, i1, i2, i3, jf⟩ := blk4 HA4.out.i
      have iz := HA4.out.i.1
      obtain ⟨r0, r1, r2, r3, rf⟩ := blk4 HA4.out.r
      have rz := HA4.out.r.1
      unfold tellS
      have hk0' : (0 : Int) ≤ (kk : Int) := by omega
      go_wp2_with fail
      go_loopw [8] (fun i wr => (i = .int .i64 0 ∧ Hid (InAt w wr w.heap.size (w.heap.size + 1) nb kk 0 0 0)) ∨ (i = .int .i64 1 ∧ Hid (InAt w wr w.heap.size (w.heap.size + 1) nb kk v 0 0))) (fun i _ => 1 - (intOf i).toNat)
      case atStart => exact Or.inl ⟨rfl, HA4⟩
      case round =>
        clear i0 i1 i2 i3 jf iz r0 r1 r2 r3 rf rz
        rcases hrel with ⟨rfl, HQ⟩ | ⟨rfl, HQ⟩
        · skip
          obtain ⟨i0, i1, i2, i3, jf⟩ := blk4 HQ.out.i
          have iz := HQ.out.i.1
          obtain ⟨r0, r1, r2, r3, rf⟩ := blk4 HQ.out.r
          have rz := HQ.out.r.1
          have cy := (HCy.out _ HQ.out.be).1
          have cb := (HCy.out _ HQ.out.be).2
          go_wp2_with fail
          refine (HVy.out _).mono ?_
          rintro e w5 ⟨rfl, hb5⟩
          have HA5 := Lib.hid (in_below HQ.out hb5)
          clear hb5 i0 i1 i2 i3 jf iz r0 r1 r2 r3 rf rz cy cb
          obtain ⟨i0, i1, i2, i3, jf⟩ := blk4 HA5.out.i
          have iz := HA5.out.i.1
          obtain ⟨r0, r1, r2, r3, rf⟩ := blk4 HA5.out.r
          have rz := HA5.out.r.1
          have cy := (HCy.out _ HA5.out.be).1
          have cb := (HCy.out _ HA5.out.be).2
          go_wp2_with fail
          refine (HBy.out _).mono ?_
          rintro e w6 ⟨⟨x, rfl, hx⟩, rfl⟩
          obtain rfl : x = (v : Int) := hx v hby
          rw [hby]
          simp only [Option.isSome_some]
          have HA6 := Lib.hid (in_set (o' := (kk : Int)) (x' := v) (p' := 0) (q' := 0) HA5.out 1 (.int .u64 ((v : Int))) rfl)
          go_wp2_with fail
          go_roundw
          case rel => exact Or.inr ⟨rfl, HA6⟩
          case measure => simp [intOf]
        · skip
          obtain ⟨r0, r1, r2, r3, rf⟩ := blk4 HQ.out.r
          have rz := HQ.out.r.1
          obtain ⟨i0, i1, i2, i3, jf⟩ := blk4 HQ.out.i
          have iz := HQ.out.i.1
          go_wp2_with fail
          refine post_named ?_
          intro wF hwF
          have BF : Blk wF w.heap.size [.int .i64 kk, .int .u64 v, .int .i64 0, .int .i64 0] := by rw [hwF]; exact blk_set (blk_set (blk_set (blk_set HQ.out.r 0 _) 1 _) 2 _) 3 _
          have FB : Below w.heap.size w wF := by rw [hwF]; exact b_set (b_set (b_set (b_set HQ.out.be (Nat.le_refl _) _) (Nat.le_refl _) _) (Nat.le_refl _) _) (Nat.le_refl _) _
          clear hwF
          obtain ⟨q0, q1, q2, q3, _⟩ := blk4 BF
          exact bodyPost_ret (v := .tuple #[.agg #[.int .i64 kk, .int .u64 v, .int .i64 0, .int .i64 0], .bool true]) (by simp [results, Tryd.results69, go_sem, q0, q1, q2, q3]) rfl ⟨rfl, FB⟩
set_option maxRecDepth 100000 in
set_option maxHeartbeats 4000000 in
theorem rin_1n {w : World} {b o n cap : Nat} {a : List UInt8} {kk : Nat} {y : List UInt8} (hyl : y.length ≤ 1000000) (cy : w.cell? ⟨b, o + 1, none⟩ = some (.string ⟨y.toArray⟩)) (hne : ((n : Int) != 2) = false) (hby : bitsL y = none) (h : InIn w b o n cap a 1 (kk : Int)) : Calls Tryd.prog 69 #[.slice (some ⟨b, o, none⟩) n cap] w (fun e w' => ∃ o x p q : Int, RetOne o x p q false w e w') := by
  have hn1 := h.n1
  have hnc := h.nc
  have hcm := h.cm
  have hb := h.hb
  have c0 := h.c0
  have HOP := Lib.hid h.lo
  have HKD := Lib.hid h.kd
  clear h
  have hn2 : (1 : Int) < n := by have q : (n : Int) = 2 := (by simpa using hne); omega
  obtain ⟨vvy, hvy⟩ : ∃ zz : Int, zz = (match valL y with | some n => (n : Int) | none => -1) := ⟨_, rfl⟩
  have HVy : Hid (∀ w, Calls Tryd.prog 68 #[.string ⟨y.toArray⟩] w fun e w' => e = .returned (.int .i64 vvy) ∧ Below w.heap.size w w') := Lib.hid (fun w => by rw [hvy]; exact rval_any y w hyl)
  have HBy : Hid (∀ w, Calls Tryd.prog 86 #[.string ⟨y.toArray⟩] w fun e w' => (∃ x : Int, e = .returned (.tuple #[.int .u64 x, .bool (bitsL y).isSome]) ∧ ∀ n, bitsL y = some n → x = (n : Int)) ∧ w = w') := Lib.hid (fun w => rbits_any y w hyl)
  have HCy := Lib.hid (fun (w' : World) (hw : Below w.heap.size w w') => (And.intro (((bcell hw).1 b (o + 1) hb).trans cy) (Nat.lt_of_lt_of_le hb hw.size) : w'.cell? ⟨b, o + 1, none⟩ = some (.string ⟨y.toArray⟩) ∧ b < w'.heap.size))
  clear cy
  clear hvy
  have HC0 := Lib.hid (fun (w' : World) (hw : Below w.heap.size w w') => (And.intro (((bcell hw).1 b o hb).trans c0) (Nat.lt_of_lt_of_le hb hw.size) : w'.cell? ⟨b, o, none⟩ = some (.string ⟨a.toArray⟩) ∧ b < w'.heap.size))
  unfold RetOne
  have hn0 : (0 : Int) < n := by omega
  go_enter Tryd.func69, Tryd.ntmps69
  go_upto_region 2 with fail
  refine wp_named ?_
  intro W1 hW1
  have HI1 : Hid (Blk W1 (w.heap.size + 1) [.int .i64 (-1), .int .u64 0, .int .i64 0, .int .i64 0]) := Lib.hid (by
    have q := blk_new (w.alloc (.cells #[.int .i64 0, .int .u64 0, .int .i64 0, .int .i64 0] 42)) #[.int .i64 (-1), .int .u64 0, .int .i64 0, .int .i64 0] 42
    rw [World.size_alloc] at q
    rw [hW1]; exact q)
  have HR1 : Hid (Blk W1 w.heap.size [.int .i64 0, .int .u64 0, .int .i64 0, .int .i64 0]) := Lib.hid (by rw [hW1]; exact blk_alloc (blk_new _ _ _) _)
  have HB1 : Hid (Below w.heap.size w W1) := Lib.hid (by rw [hW1]; exact b_alloc (b_alloc (Below.refl _ _) _) _)
  clear hW1
  go_wp2_with fail
  refine (names_any _).mono ?_
  rintro e w2 ⟨rfl, hw2⟩
  have HN2 : Hid (InAt w w2 w.heap.size (w.heap.size + 1) W1.heap.size (lastOp a 0) 0 0 0) := Lib.hid (by
    rw [hw2]
    refine ⟨blk_alloc HI1.out _, blk_alloc HR1.out _, fun k hk => ?_, b_alloc HB1.out _, by simp, by omega, by have := HI1.out.1; omega, Nat.le_refl _, by omega⟩
    have q := (World.cell?_alloc_new W1 nameTab 9 k).trans (names_at k hk)
    rw [q]
    show some (Value.string (nameS k)) = some (.string ⟨(nameS k).data.toList.toArray⟩)
    rw [barr])
  have hz : b < w.heap.size := hb
  clear hw2 HI1 HR1 c0
  generalize W1.heap.size = nb at *
  go_wp2_with fail
  go_loopw [15] (fun i wr => ∃ k : Nat, k ≤ 37 ∧ i = .int .i64 k ∧ Hid (InAt w wr w.heap.size (w.heap.size + 1) nb (lastOp a k) 0 0 0)) (fun i _ => 37 - (intOf i).toNat)
  case atStart => exact ⟨0, Nat.zero_le _, rfl, HN2⟩
  case round =>
    obtain ⟨k, hk, rfl, HA⟩ := hrel
    have hk0 : (0 : Int) ≤ k := by omega
    have HC := Lib.hid HC0.out
    by_cases hlt : k < 37
    · have k37 : (k : Int) < 37 := by omega
      have c0 := (HC.out wr HA.out.be).1
      have cN := HA.out.n k hlt
      obtain ⟨i0, i1, i2, i3, jf⟩ := blk4 HA.out.i
      have iz := HA.out.i.1
      have nz := HA.out.nz
      cases hq : (nameL k == a) with
      | true =>
        have HL : Hid (lastOp a (k + 1) = (k : Int)) := Lib.hid (by show (if nameL k = a then _ else _) = _; rw [if_pos (by simpa using hq)])
        have HS := Lib.hid (in_set (o' := (k : Int)) (x' := 0) (p' := 0) (q' := 0) HA.out 0 (.int .i64 k) rfl)
        go_wp2_with fail
        go_roundw
        case rel => exact ⟨k + 1, by omega, by first | rfl | trivial | go_num, Lib.hid (by rw [HL.out]; exact HS.out)⟩
        case measure => simp [intOf]; omega
      | false =>
        have HL : Hid (lastOp a (k + 1) = lastOp a k) := Lib.hid (by show (if nameL k = a then _ else _) = _; rw [if_neg (by simpa using hq)])
        go_wp2_with fail
        go_roundw
        case rel => exact ⟨k + 1, by omega, by first | rfl | trivial | go_num, Lib.hid (by rw [HL.out]; exact HA.out)⟩
        case measure => simp [intOf]; omega
    · have hke : k = 37 := by omega
      subst hke
      have HA3 : Hid (InAt w wr w.heap.size (w.heap.size + 1) nb (kk : Int) 0 0 0) := Lib.hid (by rw [← HOP.out]; exact HA.out)
      clear HA HN2
      obtain ⟨i0, i1, i2, i3, jf⟩ := blk4 HA3.out.i
      have iz := HA3.out.i.1
      have HT := Lib.hid (fun w => told_any (kk : Int) w)
      rw [HKD.out] at HT
      go_wp2_with fail
      refine (HT.out _).mono ?_
      rintro e w4 ⟨rfl, hb4⟩
      have HA4 := Lib.hid (in_below HA3.out hb4)
      clear hb4 HA3 i0 i1 i2 i3 jf iz HT
      obtain ⟨i0, i1, i2, i3, jf⟩ := blk4 HA4.out.i
      have iz := HA4.out.i.1
      obtain ⟨r0, r1, r2, r3, rf⟩ := blk4 HA4.out.r
      have rz := HA4.out.r.1
      unfold tellS
      have hk0' : (0 : Int) ≤ (kk : Int) := by omega
      go_wp2_with fail
      go_loopw [8] (fun i wr => i = .int .i64 0 ∧ Hid (InAt w wr w.heap.size (w.heap.size + 1) nb kk 0 0 0)) (fun i _ => 1 - (intOf i).toNat)
      case atStart => exact ⟨rfl, HA4⟩
      case round =>
        clear i0 i1 i2 i3 jf iz r0 r1 r2 r3 rf rz
        rcases hrel with ⟨rfl, HQ⟩
        · skip
          obtain ⟨i0, i1, i2, i3, jf⟩ := blk4 HQ.out.i
          have iz := HQ.out.i.1
          obtain ⟨r0, r1, r2, r3, rf⟩ := blk4 HQ.out.r
          have rz := HQ.out.r.1
          have cy := (HCy.out _ HQ.out.be).1
          have cb := (HCy.out _ HQ.out.be).2
          go_wp2_with fail
          refine (HVy.out _).mono ?_
          rintro e w5 ⟨rfl, hb5⟩
          have HA5 := Lib.hid (in_below HQ.out hb5)
          clear hb5 i0 i1 i2 i3 jf iz r0 r1 r2 r3 rf rz cy cb
          obtain ⟨i0, i1, i2, i3, jf⟩ := blk4 HA5.out.i
          have iz := HA5.out.i.1
          obtain ⟨r0, r1, r2, r3, rf⟩ := blk4 HA5.out.r
          have rz := HA5.out.r.1
          have cy := (HCy.out _ HA5.out.be).1
          have cb := (HCy.out _ HA5.out.be).2
          go_wp2_with fail
          refine (HBy.out _).mono ?_
          rintro e w6 ⟨⟨x, rfl, hx⟩, rfl⟩
          rw [hby]
          simp only [Option.isSome_none]
          have HA6 := Lib.hid (in_set (o' := (kk : Int)) (x' := x) (p' := 0) (q' := 0) HA5.out 1 (.int .u64 (x)) rfl)
          go_wp2_with fail
          refine post_named ?_
          intro wF hwF
          have BF : Blk wF w.heap.size [.int .i64 kk, .int .u64 (x), .int .i64 (0), .int .i64 (0)] := by rw [hwF]; exact blk_set (blk_set (blk_set (blk_set HA6.out.r 0 _) 1 _) 2 _) 3 _
          have FB : Below w.heap.size w wF := by rw [hwF]; exact b_set (b_set (b_set (b_set HA6.out.be (Nat.le_refl _) _) (Nat.le_refl _) _) (Nat.le_refl _) _) (Nat.le_refl _) _
          clear hwF
          obtain ⟨q0, q1, q2, q3, _⟩ := blk4 BF
          exact bodyPost_ret (v := .tuple #[.agg #[.int .i64 kk, .int .u64 (x), .int .i64 (0), .int .i64 (0)], .bool false]) (by simp [results, Tryd.results69, go_sem, q0, q1, q2, q3]) rfl ⟨_, _, _, _, rfl, FB⟩
set_option maxRecDepth 100000 in
set_option maxHeartbeats 4000000 in
theorem rin_2 {w : World} {b o n cap : Nat} {a : List UInt8} {v : Nat} {kk : Nat} {y : List UInt8} (hyl : y.length ≤ 1000000) (cy : w.cell? ⟨b, o + 1, none⟩ = some (.string ⟨y.toArray⟩)) (hne : ((n : Int) != 2) = false) (hbyy : valL y = some v) (h : InIn w b o n cap a 2 (kk : Int)) : Calls Tryd.prog 69 #[.slice (some ⟨b, o, none⟩) n cap] w (RetOne kk 0 v 0 true w) := by
  have hn1 := h.n1
  have hnc := h.nc
  have hcm := h.cm
  have hb := h.hb
  have c0 := h.c0
  have HOP := Lib.hid h.lo
  have HKD := Lib.hid h.kd
  clear h
  have hn2 : (1 : Int) < n := by have q : (n : Int) = 2 := (by simpa using hne); omega
  obtain ⟨vvy, hvy⟩ : ∃ zz : Int, zz = (match valL y with | some n => (n : Int) | none => -1) := ⟨_, rfl⟩
  have HVy : Hid (∀ w, Calls Tryd.prog 68 #[.string ⟨y.toArray⟩] w fun e w' => e = .returned (.int .i64 vvy) ∧ Below w.heap.size w w') := Lib.hid (fun w => by rw [hvy]; exact rval_any y w hyl)
  have HBy : Hid (∀ w, Calls Tryd.prog 86 #[.string ⟨y.toArray⟩] w fun e w' => (∃ x : Int, e = .returned (.tuple #[.int .u64 x, .bool (bitsL y).isSome]) ∧ ∀ n, bitsL y = some n → x = (n : Int)) ∧ w = w') := Lib.hid (fun w => rbits_any y w hyl)
  have HCy := Lib.hid (fun (w' : World) (hw : Below w.heap.size w w') => (And.intro (((bcell hw).1 b (o + 1) hb).trans cy) (Nat.lt_of_lt_of_le hb hw.size) : w'.cell? ⟨b, o + 1, none⟩ = some (.string ⟨y.toArray⟩) ∧ b < w'.heap.size))
  clear cy
  rw [hbyy] at hvy
  simp only at hvy
  subst hvy
  have HC0 := Lib.hid (fun (w' : World) (hw : Below w.heap.size w w') => (And.intro (((bcell hw).1 b o hb).trans c0) (Nat.lt_of_lt_of_le hb hw.size) : w'.cell? ⟨b, o, none⟩ = some (.string ⟨a.toArray⟩) ∧ b < w'.heap.size))
  unfold RetOne
  have hn0 : (0 : Int) < n := by omega
  go_enter Tryd.func69, Tryd.ntmps69
  go_upto_region 2 with fail
  refine wp_named ?_
  intro W1 hW1
  have HI1 : Hid (Blk W1 (w.heap.size + 1) [.int .i64 (-1), .int .u64 0, .int .i64 0, .int .i64 0]) := Lib.hid (by
    have q := blk_new (w.alloc (.cells #[.int .i64 0, .int .u64 0, .int .i64 0, .int .i64 0] 42)) #[.int .i64 (-1), .int .u64 0, .int .i64 0, .int .i64 0] 42
    rw [World.size_alloc] at q
    rw [hW1]; exact q)
  have HR1 : Hid (Blk W1 w.heap.size [.int .i64 0, .int .u64 0, .int .i64 0, .int .i64 0]) := Lib.hid (by rw [hW1]; exact blk_alloc (blk_new _ _ _) _)
  have HB1 : Hid (Below w.heap.size w W1) := Lib.hid (by rw [hW1]; exact b_alloc (b_alloc (Below.refl _ _) _) _)
  clear hW1
  go_wp2_with fail
  refine (names_any _).mono ?_
  rintro e w2 ⟨rfl, hw2⟩
  have HN2 : Hid (InAt w w2 w.heap.size (w.heap.size + 1) W1.heap.size (lastOp a 0) 0 0 0) := Lib.hid (by
    rw [hw2]
    refine ⟨blk_alloc HI1.out _, blk_alloc HR1.out _, fun k hk => ?_, b_alloc HB1.out _, by simp, by omega, by have := HI1.out.1; omega, Nat.le_refl _, by omega⟩
    have q := (World.cell?_alloc_new W1 nameTab 9 k).trans (names_at k hk)
    rw [q]
    show some (Value.string (nameS k)) = some (.string ⟨(nameS k).data.toList.toArray⟩)
    rw [barr])
  have hz : b < w.heap.size := hb
  clear hw2 HI1 HR1 c0
  generalize W1.heap.size = nb at *
  go_wp2_with fail
  go_loopw [15] (fun i wr => ∃ k : Nat, k ≤ 37 ∧ i = .int .i64 k ∧ Hid (InAt w wr w.heap.size (w.heap.size + 1) nb (lastOp a k) 0 0 0)) (fun i _ => 37 - (intOf i).toNat)
  case atStart => exact ⟨0, Nat.zero_le _, rfl, HN2⟩
  case round =>
    obtain ⟨k, hk, rfl, HA⟩ := hrel
    have hk0 : (0 : Int) ≤ k := by omega
    have HC := Lib.hid HC0.out
    by_cases hlt : k < 37
    · have k37 : (k : Int) < 37 := by omega
      have c0 := (HC.out wr HA.out.be).1
      have cN := HA.out.n k hlt
      obtain ⟨i0, i1, i2, i3, jf⟩ := blk4 HA.out.i
      have iz := HA.out.i.1
      have nz := HA.out.nz
      cases hq : (nameL k == a) with
      | true =>
        have HL : Hid (lastOp a (k + 1) = (k : Int)) := Lib.hid (by show (if nameL k = a then _ else _) = _; rw [if_pos (by simpa using hq)])
        have HS := Lib.hid (in_set (o' := (k : Int)) (x' := 0) (p' := 0) (q' := 0) HA.out 0 (.int .i64 k) rfl)
        go_wp2_with fail
        go_roundw
        case rel => exact ⟨k + 1, by omega, by first | rfl | trivial | go_num, Lib.hid (by rw [HL.out]; exact HS.out)⟩
        case measure => simp [intOf]; omega
      | false =>
        have HL : Hid (lastOp a (k + 1) = lastOp a k) := Lib.hid (by show (if nameL k = a then _ else _) = _; rw [if_neg (by simpa using hq)])
        go_wp2_with fail
        go_roundw
        case rel => exact ⟨k + 1, by omega, by first | rfl | trivial | go_num, Lib.hid (by rw [HL.out]; exact HA.out)⟩
        case measure => simp [intOf]; omega
    · have hke : k = 37 := by omega
      subst hke
      have HA3 : Hid (InAt w wr w.heap.size (w.heap.size + 1) nb (kk : Int) 0 0 0) := Lib.hid (by rw [← HOP.out]; exact HA.out)
      clear HA HN2
      obtain ⟨i0, i1, i2, i3, jf⟩ := blk4 HA3.out.i
      have iz := HA3.out.i.1
      have HT := Lib.hid (fun w => told_any (kk : Int) w)
      rw [HKD.out] at HT
      go_wp2_with fail
      refine (HT.out _).mono ?_
      rintro e w4 ⟨rfl, hb4⟩
      have HA4 := Lib.hid (in_below HA3.out hb4)
      clear hb4 HA3 i0 i1 i2 i3 jf iz HT
      obtain ⟨i0, i1, i2, i3, jf⟩ := blk4 HA4.out.i
      have iz := HA4.out.i.1
      obtain ⟨r0, r1, r2, r3, rf⟩ := blk4 HA4.out.r
      have rz := HA4.out.r.1
      unfold tellS
      have hk0' : (0 : Int) ≤ (kk : Int) := by omega
      have hv0 : (0 : Int) ≤ (v : Int) := by omega
      go_wp2_with fail
      go_loopw [8] (fun i wr => (i = .int .i64 0 ∧ Hid (InAt w wr w.heap.size (w.heap.size + 1) nb kk 0 0 0)) ∨ (i = .int .i64 1 ∧ Hid (InAt w wr w.heap.size (w.heap.size + 1) nb kk 0 v 0))) (fun i _ => 1 - (intOf i).toNat)
      case atStart => exact Or.inl ⟨rfl, HA4⟩
      case round =>
        clear i0 i1 i2 i3 jf iz r0 r1 r2 r3 rf rz
        rcases hrel with ⟨rfl, HQ⟩ | ⟨rfl, HQ⟩
        · skip
          obtain ⟨i0, i1, i2, i3, jf⟩ := blk4 HQ.out.i
          have iz := HQ.out.i.1
          obtain ⟨r0, r1, r2, r3, rf⟩ := blk4 HQ.out.r
          have rz := HQ.out.r.1
          have cy := (HCy.out _ HQ.out.be).1
          have cb := (HCy.out _ HQ.out.be).2
          go_wp2_with fail
          refine (HVy.out _).mono ?_
          rintro e w5 ⟨rfl, hb5⟩
          have HA5 := Lib.hid (in_below HQ.out hb5)
          clear hb5 i0 i1 i2 i3 jf iz r0 r1 r2 r3 rf rz cy cb
          obtain ⟨i0, i1, i2, i3, jf⟩ := blk4 HA5.out.i
          have iz := HA5.out.i.1
          obtain ⟨r0, r1, r2, r3, rf⟩ := blk4 HA5.out.r
          have rz := HA5.out.r.1
          have cy := (HCy.out _ HA5.out.be).1
          have cb := (HCy.out _ HA5.out.be).2
          go_wp2_with fail
          refine (HBy.out _).mono ?_
          rintro e w6 ⟨⟨x, rfl, hx⟩, rfl⟩
          have HA6 := Lib.hid (in_set (o' := (kk : Int)) (x' := 0) (p' := v) (q' := 0) HA5.out 2 (.int .i64 ((v : Int))) rfl)
          go_wp2_with fail
          go_roundw
          case rel => exact Or.inr ⟨rfl, HA6⟩
          case measure => simp [intOf]
        · skip
          obtain ⟨r0, r1, r2, r3, rf⟩ := blk4 HQ.out.r
          have rz := HQ.out.r.1
          obtain ⟨i0, i1, i2, i3, jf⟩ := blk4 HQ.out.i
          have iz := HQ.out.i.1
          go_wp2_with fail
          refine post_named ?_
          intro wF hwF
          have BF : Blk wF w.heap.size [.int .i64 kk, .int .u64 0, .int .i64 v, .int .i64 0] := by rw [hwF]; exact blk_set (blk_set (blk_set (blk_set HQ.out.r 0 _) 1 _) 2 _) 3 _
          have FB : Below w.heap.size w wF := by rw [hwF]; exact b_set (b_set (b_set (b_set HQ.out.be (Nat.le_refl _) _) (Nat.le_refl _) _) (Nat.le_refl _) _) (Nat.le_refl _) _
          clear hwF
          obtain ⟨q0, q1, q2, q3, _⟩ := blk4 BF
          exact bodyPost_ret (v := .tuple #[.agg #[.int .i64 kk, .int .u64 0, .int .i64 v, .int .i64 0], .bool true]) (by simp [results, Tryd.results69, go_sem, q0, q1, q2, q3]) rfl ⟨rfl, FB⟩
set_option maxRecDepth 100000 in
set_option maxHeartbeats 4000000 in
theorem rin_2n {w : World} {b o n cap : Nat} {a : List UInt8} {kk : Nat} {y : List UInt8} (hyl : y.length ≤ 1000000) (cy : w.cell? ⟨b, o + 1, none⟩ = some (.string ⟨y.toArray⟩)) (hne : ((n : Int) != 2) = false) (hbyy : valL y = none) (h : InIn w b o n cap a 2 (kk : Int)) : Calls Tryd.prog 69 #[.slice (some ⟨b, o, none⟩) n cap] w (fun e w' => ∃ o x p q : Int, RetOne o x p q false w e w') := by
  have hn1 := h.n1
  have hnc := h.nc
  have hcm := h.cm
  have hb := h.hb
  have c0 := h.c0
  have HOP := Lib.hid h.lo
  have HKD := Lib.hid h.kd
  clear h
  have hn2 : (1 : Int) < n := by have q : (n : Int) = 2 := (by simpa using hne); omega
  obtain ⟨vvy, hvy⟩ : ∃ zz : Int, zz = (match valL y with | some n => (n : Int) | none => -1) := ⟨_, rfl⟩
  have HVy : Hid (∀ w, Calls Tryd.prog 68 #[.string ⟨y.toArray⟩] w fun e w' => e = .returned (.int .i64 vvy) ∧ Below w.heap.size w w') := Lib.hid (fun w => by rw [hvy]; exact rval_any y w hyl)
  have HBy : Hid (∀ w, Calls Tryd.prog 86 #[.string ⟨y.toArray⟩] w fun e w' => (∃ x : Int, e = .returned (.tuple #[.int .u64 x, .bool (bitsL y).isSome]) ∧ ∀ n, bitsL y = some n → x = (n : Int)) ∧ w = w') := Lib.hid (fun w => rbits_any y w hyl)
  have HCy := Lib.hid (fun (w' : World) (hw : Below w.heap.size w w') => (And.intro (((bcell hw).1 b (o + 1) hb).trans cy) (Nat.lt_of_lt_of_le hb hw.size) : w'.cell? ⟨b, o + 1, none⟩ = some (.string ⟨y.toArray⟩) ∧ b < w'.heap.size))
  clear cy
  rw [hbyy] at hvy
  simp only at hvy
  subst hvy
  have HC0 := Lib.hid (fun (w' : World) (hw : Below w.heap.size w w') => (And.intro (((bcell hw).1 b o hb).trans c0) (Nat.lt_of_lt_of_le hb hw.size) : w'.cell? ⟨b, o, none⟩ = some (.string ⟨a.toArray⟩) ∧ b < w'.heap.size))
  unfold RetOne
  have hn0 : (0 : Int) < n := by omega
  go_enter Tryd.func69, Tryd.ntmps69
  go_upto_region 2 with fail
  refine wp_named ?_
  intro W1 hW1
  have HI1 : Hid (Blk W1 (w.heap.size + 1) [.int .i64 (-1), .int .u64 0, .int .i64 0, .int .i64 0]) := Lib.hid (by
    have q := blk_new (w.alloc (.cells #[.int .i64 0, .int .u64 0, .int .i64 0, .int .i64 0] 42)) #[.int .i64 (-1), .int .u64 0, .int .i64 0, .int .i64 0] 42
    rw [World.size_alloc] at q
    rw [hW1]; exact q)
  have HR1 : Hid (Blk W1 w.heap.size [.int .i64 0, .int .u64 0, .int .i64 0, .int .i64 0]) := Lib.hid (by rw [hW1]; exact blk_alloc (blk_new _ _ _) _)
  have HB1 : Hid (Below w.heap.size w W1) := Lib.hid (by rw [hW1]; exact b_alloc (b_alloc (Below.refl _ _) _) _)
  clear hW1
  go_wp2_with fail
  refine (names_any _).mono ?_
  rintro e w2 ⟨rfl, hw2⟩
  have HN2 : Hid (InAt w w2 w.heap.size (w.heap.size + 1) W1.heap.size (lastOp a 0) 0 0 0) := Lib.hid (by
    rw [hw2]
    refine ⟨blk_alloc HI1.out _, blk_alloc HR1.out _, fun k hk => ?_, b_alloc HB1.out _, by simp, by omega, by have := HI1.out.1; omega, Nat.le_refl _, by omega⟩
    have q := (World.cell?_alloc_new W1 nameTab 9 k).trans (names_at k hk)
    rw [q]
    show some (Value.string (nameS k)) = some (.string ⟨(nameS k).data.toList.toArray⟩)
    rw [barr])
  have hz : b < w.heap.size := hb
  clear hw2 HI1 HR1 c0
  generalize W1.heap.size = nb at *
  go_wp2_with fail
  go_loopw [15] (fun i wr => ∃ k : Nat, k ≤ 37 ∧ i = .int .i64 k ∧ Hid (InAt w wr w.heap.size (w.heap.size + 1) nb (lastOp a k) 0 0 0)) (fun i _ => 37 - (intOf i).toNat)
  case atStart => exact ⟨0, Nat.zero_le _, rfl, HN2⟩
  case round =>
    obtain ⟨k, hk, rfl, HA⟩ := hrel
    have hk0 : (0 : Int) ≤ k := by omega
    have HC := Lib.hid HC0.out
    by_cases hlt : k < 37
    · have k37 : (k : Int) < 37 := by omega
      have c0 := (HC.out wr HA.out.be).1
      have cN := HA.out.n k hlt
      obtain ⟨i0, i1, i2, i3, jf⟩ := blk4 HA.out.i
      have iz := HA.out.i.1
      have nz := HA.out.nz
      cases hq : (nameL k == a) with
      | true =>
        have HL : Hid (lastOp a (k + 1) = (k : Int)) := Lib.hid (by show (if nameL k = a then _ else _) = _; rw [if_pos (by simpa using hq)])
        have HS := Lib.hid (in_set (o' := (k : Int)) (x' := 0) (p' := 0) (q' := 0) HA.out 0 (.int .i64 k) rfl)
        go_wp2_with fail
        go_roundw
        case rel => exact ⟨k + 1, by omega, by first | rfl | trivial | go_num, Lib.hid (by rw [HL.out]; exact HS.out)⟩
        case measure => simp [intOf]; omega
      | false =>
        have HL : Hid (lastOp a (k + 1) = lastOp a k) := Lib.hid (by show (if nameL k = a then _ else _) = _; rw [if_neg (by simpa using hq)])
        go_wp2_with fail
        go_roundw
        case rel => exact ⟨k + 1, by omega, by first | rfl | trivial | go_num, Lib.hid (by rw [HL.out]; exact HA.out)⟩
        case measure => simp [intOf]; omega
    · have hke : k = 37 := by omega
      subst hke
      have HA3 : Hid (InAt w wr w.heap.size (w.heap.size + 1) nb (kk : Int) 0 0 0) := Lib.hid (by rw [← HOP.out]; exact HA.out)
      clear HA HN2
      obtain ⟨i0, i1, i2, i3, jf⟩ := blk4 HA3.out.i
      have iz := HA3.out.i.1
      have HT := Lib.hid (fun w => told_any (kk : Int) w)
      rw [HKD.out] at HT
      go_wp2_with fail
      refine (HT.out _).mono ?_
      rintro e w4 ⟨rfl, hb4⟩
      have HA4 := Lib.hid (in_below HA3.out hb4)
      clear hb4 HA3 i0 i1 i2 i3 jf iz HT
      obtain ⟨i0, i1, i2, i3, jf⟩ := blk4 HA4.out.i
      have iz := HA4.out.i.1
      obtain ⟨r0, r1, r2, r3, rf⟩ := blk4 HA4.out.r
      have rz := HA4.out.r.1
      unfold tellS
      have hk0' : (0 : Int) ≤ (kk : Int) := by omega
      go_wp2_with fail
      go_loopw [8] (fun i wr => i = .int .i64 0 ∧ Hid (InAt w wr w.heap.size (w.heap.size + 1) nb kk 0 0 0)) (fun i _ => 1 - (intOf i).toNat)
      case atStart => exact ⟨rfl, HA4⟩
      case round =>
        clear i0 i1 i2 i3 jf iz r0 r1 r2 r3 rf rz
        rcases hrel with ⟨rfl, HQ⟩
        · skip
          obtain ⟨i0, i1, i2, i3, jf⟩ := blk4 HQ.out.i
          have iz := HQ.out.i.1
          obtain ⟨r0, r1, r2, r3, rf⟩ := blk4 HQ.out.r
          have rz := HQ.out.r.1
          have cy := (HCy.out _ HQ.out.be).1
          have cb := (HCy.out _ HQ.out.be).2
          go_wp2_with fail
          refine (HVy.out _).mono ?_
          rintro e w5 ⟨rfl, hb5⟩
          have HA5 := Lib.hid (in_below HQ.out hb5)
          clear hb5 i0 i1 i2 i3 jf iz r0 r1 r2 r3 rf rz cy cb
          obtain ⟨i0, i1, i2, i3, jf⟩ := blk4 HA5.out.i
          have iz := HA5.out.i.1
          obtain ⟨r0, r1, r2, r3, rf⟩ := blk4 HA5.out.r
          have rz := HA5.out.r.1
          have cy := (HCy.out _ HA5.out.be).1
          have cb := (HCy.out _ HA5.out.be).2
          go_wp2_with fail
          refine (HBy.out _).mono ?_
          rintro e w6 ⟨⟨x, rfl, hx⟩, rfl⟩
          have HA6 := Lib.hid (in_set (o' := (kk : Int)) (x' := 0) (p' := -1) (q' := 0) HA5.out 2 (.int .i64 (-1)) rfl)
          go_wp2_with fail
          refine post_named ?_
          intro wF hwF
          have BF : Blk wF w.heap.size [.int .i64 kk, .int .u64 (0), .int .i64 (-1), .int .i64 (0)] := by rw [hwF]; exact blk_set (blk_set (blk_set (blk_set HA6.out.r 0 _) 1 _) 2 _) 3 _
          have FB : Below w.heap.size w wF := by rw [hwF]; exact b_set (b_set (b_set (b_set HA6.out.be (Nat.le_refl _) _) (Nat.le_refl _) _) (Nat.le_refl _) _) (Nat.le_refl _) _
          clear hwF
          obtain ⟨q0, q1, q2, q3, _⟩ := blk4 BF
          exact bodyPost_ret (v := .tuple #[.agg #[.int .i64 kk, .int .u64 (0), .int .i64 (-1), .int .i64 (0)], .bool false]) (by simp [results, Tryd.results69, go_sem, q0, q1, q2, q3]) rfl ⟨_, _, _, _, rfl, FB⟩
set_option maxRecDepth 100000 in
set_option maxHeartbeats 4000000 in
theorem rin_3 {w : World} {b o n cap : Nat} {a : List UInt8} {v u : Nat} {kk : Nat} {y z : List UInt8} (hyl : y.length ≤ 1000000) (hzl : z.length ≤ 1000000) (cy : w.cell? ⟨b, o + 1, none⟩ = some (.string ⟨y.toArray⟩)) (cz : w.cell? ⟨b, o + 2, none⟩ = some (.string ⟨z.toArray⟩)) (hne : ((n : Int) != 3) = false) (hbyy : valL y = some v) (hbyz : valL z = some u) (h : InIn w b o n cap a 3 (kk : Int)) : Calls Tryd.prog 69 #[.slice (some ⟨b, o, none⟩) n cap] w (RetOne kk 0 v u true w) := by
  have hn1 := h.n1
  have hnc := h.nc
  have hcm := h.cm
  have hb := h.hb
  have c0 := h.c0
  have HOP := Lib.hid h.lo
  have HKD := Lib.hid h.kd
  clear h
  have hn2 : (2 : Int) < n := by have q : (n : Int) = 3 := (by simpa using hne); omega
  have hn3 : (1 : Int) < n := by omega
  obtain ⟨vvy, hvy⟩ : ∃ zz : Int, zz = (match valL y with | some n => (n : Int) | none => -1) := ⟨_, rfl⟩
  have HVy : Hid (∀ w, Calls Tryd.prog 68 #[.string ⟨y.toArray⟩] w fun e w' => e = .returned (.int .i64 vvy) ∧ Below w.heap.size w w') := Lib.hid (fun w => by rw [hvy]; exact rval_any y w hyl)
  have HBy : Hid (∀ w, Calls Tryd.prog 86 #[.string ⟨y.toArray⟩] w fun e w' => (∃ x : Int, e = .returned (.tuple #[.int .u64 x, .bool (bitsL y).isSome]) ∧ ∀ n, bitsL y = some n → x = (n : Int)) ∧ w = w') := Lib.hid (fun w => rbits_any y w hyl)
  have HCy := Lib.hid (fun (w' : World) (hw : Below w.heap.size w w') => (And.intro (((bcell hw).1 b (o + 1) hb).trans cy) (Nat.lt_of_lt_of_le hb hw.size) : w'.cell? ⟨b, o + 1, none⟩ = some (.string ⟨y.toArray⟩) ∧ b < w'.heap.size))
  clear cy
  rw [hbyy] at hvy
  simp only at hvy
  subst hvy
  obtain ⟨vvz, hvz⟩ : ∃ zz : Int, zz = (match valL z with | some n => (n : Int) | none => -1) := ⟨_, rfl⟩
  have HVz : Hid (∀ w, Calls Tryd.prog 68 #[.string ⟨z.toArray⟩] w fun e w' => e = .returned (.int .i64 vvz) ∧ Below w.heap.size w w') := Lib.hid (fun w => by rw [hvz]; exact rval_any z w hzl)
  have HBz : Hid (∀ w, Calls Tryd.prog 86 #[.string ⟨z.toArray⟩] w fun e w' => (∃ x : Int, e = .returned (.tuple #[.int .u64 x, .bool (bitsL z).isSome]) ∧ ∀ n, bitsL z = some n → x = (n : Int)) ∧ w = w') := Lib.hid (fun w => rbits_any z w hzl)
  have HCz := Lib.hid (fun (w' : World) (hw : Below w.heap.size w w') => (And.intro (((bcell hw).1 b (o + 2) hb).trans cz) (Nat.lt_of_lt_of_le hb hw.size) : w'.cell? ⟨b, o + 2, none⟩ = some (.string ⟨z.toArray⟩) ∧ b < w'.heap.size))
  clear cz
  rw [hbyz] at hvz
  simp only at hvz
  subst hvz
  have HC0 := Lib.hid (fun (w' : World) (hw : Below w.heap.size w w') => (And.intro (((bcell hw).1 b o hb).trans c0) (Nat.lt_of_lt_of_le hb hw.size) : w'.cell? ⟨b, o, none⟩ = some (.string ⟨a.toArray⟩) ∧ b < w'.heap.size))
  unfold RetOne
  have hn0 : (0 : Int) < n := by omega
  go_enter Tryd.func69, Tryd.ntmps69
  go_upto_region 2 with fail
  refine wp_named ?_
  intro W1 hW1
  have HI1 : Hid (Blk W1 (w.heap.size + 1) [.int .i64 (-1), .int .u64 0, .int .i64 0, .int .i64 0]) := Lib.hid (by
    have q := blk_new (w.alloc (.cells #[.int .i64 0, .int .u64 0, .int .i64 0, .int .i64 0] 42)) #[.int .i64 (-1), .int .u64 0, .int .i64 0, .int .i64 0] 42
    rw [World.size_alloc] at q
    rw [hW1]; exact q)
  have HR1 : Hid (Blk W1 w.heap.size [.int .i64 0, .int .u64 0, .int .i64 0, .int .i64 0]) := Lib.hid (by rw [hW1]; exact blk_alloc (blk_new _ _ _) _)
  have HB1 : Hid (Below w.heap.size w W1) := Lib.hid (by rw [hW1]; exact b_alloc (b_alloc (Below.refl _ _) _) _)
  clear hW1
  go_wp2_with fail
  refine (names_any _).mono ?_
  rintro e w2 ⟨rfl, hw2⟩
  have HN2 : Hid (InAt w w2 w.heap.size (w.heap.size + 1) W1.heap.size (lastOp a 0) 0 0 0) := Lib.hid (by
    rw [hw2]
    refine ⟨blk_alloc HI1.out _, blk_alloc HR1.out _, fun k hk => ?_, b_alloc HB1.out _, by simp, by omega, by have := HI1.out.1; omega, Nat.le_refl _, by omega⟩
    have q := (World.cell?_alloc_new W1 nameTab 9 k).trans (names_at k hk)
    rw [q]
    show some (Value.string (nameS k)) = some (.string ⟨(nameS k).data.toList.toArray⟩)
    rw [barr])
  have hz : b < w.heap.size := hb
  clear hw2 HI1 HR1 c0
  generalize W1.heap.size = nb at *
  go_wp2_with fail
  go_loopw [15] (fun i wr => ∃ k : Nat, k ≤ 37 ∧ i = .int .i64 k ∧ Hid (InAt w wr w.heap.size (w.heap.size + 1) nb (lastOp a k) 0 0 0)) (fun i _ => 37 - (intOf i).toNat)
  case atStart => exact ⟨0, Nat.zero_le _, rfl, HN2⟩
  case round =>
    obtain ⟨k, hk, rfl, HA⟩ := hrel
    have hk0 : (0 : Int) ≤ k := by omega
    have HC := Lib.hid HC0.out
    by_cases hlt : k < 37
    · have k37 : (k : Int) < 37 := by omega
      have c0 := (HC.out wr HA.out.be).1
      have cN := HA.out.n k hlt
      obtain ⟨i0, i1, i2, i3, jf⟩ := blk4 HA.out.i
      have iz := HA.out.i.1
      have nz := HA.out.nz
      cases hq : (nameL k == a) with
      | true =>
        have HL : Hid (lastOp a (k + 1) = (k : Int)) := Lib.hid (by show (if nameL k = a then _ else _) = _; rw [if_pos (by simpa using hq)])
        have HS := Lib.hid (in_set (o' := (k : Int)) (x' := 0) (p' := 0) (q' := 0) HA.out 0 (.int .i64 k) rfl)
        go_wp2_with fail
        go_roundw
        case rel => exact ⟨k + 1, by omega, by first | rfl | trivial | go_num, Lib.hid (by rw [HL.out]; exact HS.out)⟩
        case measure => simp [intOf]; omega
      | false =>
        have HL : Hid (lastOp a (k + 1) = lastOp a k) := Lib.hid (by show (if nameL k = a then _ else _) = _; rw [if_neg (by simpa using hq)])
        go_wp2_with fail
        go_roundw
        case rel => exact ⟨k + 1, by omega, by first | rfl | trivial | go_num, Lib.hid (by rw [HL.out]; exact HA.out)⟩
        case measure => simp [intOf]; omega
    · have hke : k = 37 := by omega
      subst hke
      have HA3 : Hid (InAt w wr w.heap.size (w.heap.size + 1) nb (kk : Int) 0 0 0) := Lib.hid (by rw [← HOP.out]; exact HA.out)
      clear HA HN2
      obtain ⟨i0, i1, i2, i3, jf⟩ := blk4 HA3.out.i
      have iz := HA3.out.i.1
      have HT := Lib.hid (fun w => told_any (kk : Int) w)
      rw [HKD.out] at HT
      go_wp2_with fail
      refine (HT.out _).mono ?_
      rintro e w4 ⟨rfl, hb4⟩
      have HA4 := Lib.hid (in_below HA3.out hb4)
      clear hb4 HA3 i0 i1 i2 i3 jf iz HT
      obtain ⟨i0, i1, i2, i3, jf⟩ := blk4 HA4.out.i
      have iz := HA4.out.i.1
      obtain ⟨r0, r1, r2, r3, rf⟩ := blk4 HA4.out.r
      have rz := HA4.out.r.1
      unfold tellS
      have hk0' : (0 : Int) ≤ (kk : Int) := by omega
      have hv0 : (0 : Int) ≤ (v : Int) := by omega
      have hu0 : (0 : Int) ≤ (u : Int) := by omega
      go_wp2_with fail
      go_loopw [8] (fun i wr => (i = .int .i64 0 ∧ Hid (InAt w wr w.heap.size (w.heap.size + 1) nb kk 0 0 0)) ∨ (i = .int .i64 1 ∧ Hid (InAt w wr w.heap.size (w.heap.size + 1) nb kk 0 v 0)) ∨ (i = .int .i64 2 ∧ Hid (InAt w wr w.heap.size (w.heap.size + 1) nb kk 0 v u))) (fun i _ => 2 - (intOf i).toNat)
      case atStart => exact Or.inl ⟨rfl, HA4⟩
      case round =>
        clear i0 i1 i2 i3 jf iz r0 r1 r2 r3 rf rz
        rcases hrel with ⟨rfl, HQ⟩ | ⟨rfl, HQ⟩ | ⟨rfl, HQ⟩
        · skip
          obtain ⟨i0, i1, i2, i3, jf⟩ := blk4 HQ.out.i
          have iz := HQ.out.i.1
          obtain ⟨r0, r1, r2, r3, rf⟩ := blk4 HQ.out.r
          have rz := HQ.out.r.1
          have cy := (HCy.out _ HQ.out.be).1
          have cb := (HCy.out _ HQ.out.be).2
          go_wp2_with fail
          refine (HVy.out _).mono ?_
          rintro e w5 ⟨rfl, hb5⟩
          have HA5 := Lib.hid (in_below HQ.out hb5)
          clear hb5 i0 i1 i2 i3 jf iz r0 r1 r2 r3 rf rz cy cb
          obtain ⟨i0, i1, i2, i3, jf⟩ := blk4 HA5.out.i
          have iz := HA5.out.i.1
          obtain ⟨r0, r1, r2, r3, rf⟩ := blk4 HA5.out.r
          have rz := HA5.out.r.1
          have cy := (HCy.out _ HA5.out.be).1
          have cb := (HCy.out _ HA5.out.be).2
          go_wp2_with fail
          refine (HBy.out _).mono ?_
          rintro e w6 ⟨⟨x, rfl, hx⟩, rfl⟩
          have HA6 := Lib.hid (in_set (o' := (kk : Int)) (x' := 0) (p' := v) (q' := 0) HA5.out 2 (.int .i64 ((v : Int))) rfl)
          go_wp2_with fail
          go_roundw
          case rel => exact Or.inr (Or.inl ⟨rfl, HA6⟩)
          case measure => simp [intOf]
        · skip
          obtain ⟨i0, i1, i2, i3, jf⟩ := blk4 HQ.out.i
          have iz := HQ.out.i.1
          obtain ⟨r0, r1, r2, r3, rf⟩ := blk4 HQ.out.r
          have rz := HQ.out.r.1
          have cy := (HCz.out _ HQ.out.be).1
          have cb := (HCz.out _ HQ.out.be).2
          go_wp2_with fail
          refine (HVz.out _).mono ?_
          rintro e w5 ⟨rfl, hb5⟩
          have HA5 := Lib.hid (in_below HQ.out hb5)
          clear hb5 i0 i1 i2 i3 jf iz r0 r1 r2 r3 rf rz cy cb
          obtain ⟨i0, i1, i2, i3, jf⟩ := blk4 HA5.out.i
          have iz := HA5.out.i.1
          obtain ⟨r0, r1, r2, r3, rf⟩ := blk4 HA5.out.r
          have rz := HA5.out.r.1
          have cy := (HCz.out _ HA5.out.be).1
          have cb := (HCz.out _ HA5.out.be).2
          go_wp2_with fail
          refine (HBz.out _).mono ?_
          rintro e w6 ⟨⟨x, rfl, hx⟩, rfl⟩
          have HA6 := Lib.hid (in_set (o' := (kk : Int)) (x' := 0) (p' := v) (q' := u) HA5.out 3 (.int .i64 ((u : Int))) rfl)
          go_wp2_with fail
          go_roundw
          case rel => exact Or.inr (Or.inr ⟨rfl, HA6⟩)
          case measure => simp [intOf]
        · skip
          obtain ⟨r0, r1, r2, r3, rf⟩ := blk4 HQ.out.r
          have rz := HQ.out.r.1
          obtain ⟨i0, i1, i2, i3, jf⟩ := blk4 HQ.out.i
          have iz := HQ.out.i.1
          go_wp2_with fail
          refine post_named ?_
          intro wF hwF
          have BF : Blk wF w.heap.size [.int .i64 kk, .int .u64 0, .int .i64 v, .int .i64 u] := by rw [hwF]; exact blk_set (blk_set (blk_set (blk_set HQ.out.r 0 _) 1 _) 2 _) 3 _
          have FB : Below w.heap.size w wF := by rw [hwF]; exact b_set (b_set (b_set (b_set HQ.out.be (Nat.le_refl _) _) (Nat.le_refl _) _) (Nat.le_refl _) _) (Nat.le_refl _) _
          clear hwF
          obtain ⟨q0, q1, q2, q3, _⟩ := blk4 BF
          exact bodyPost_ret (v := .tuple #[.agg #[.int .i64 kk, .int .u64 0, .int .i64 v, .int .i64 u], .bool true]) (by simp [results, Tryd.results69, go_sem, q0, q1, q2, q3]) rfl ⟨rfl, FB⟩
set_option maxRecDepth 100000 in
set_option maxHeartbeats 4000000 in
theorem rin_3n {w : World} {b o n cap : Nat} {a : List UInt8} {v : Nat} {kk : Nat} {y z : List UInt8} (hyl : y.length ≤ 1000000) (hzl : z.length ≤ 1000000) (cy : w.cell? ⟨b, o + 1, none⟩ = some (.string ⟨y.toArray⟩)) (cz : w.cell? ⟨b, o + 2, none⟩ = some (.string ⟨z.toArray⟩)) (hne : ((n : Int) != 3) = false) (hbyy : valL y = some v) (hbyz : valL z = none) (h : InIn w b o n cap a 3 (kk : Int)) : Calls Tryd.prog 69 #[.slice (some ⟨b, o, none⟩) n cap] w (fun e w' => ∃ o x p q : Int, RetOne o x p q false w e w') := by
  have hn1 := h.n1
  have hnc := h.nc
  have hcm := h.cm
  have hb := h.hb
  have c0 := h.c0
  have HOP := Lib.hid h.lo
  have HKD := Lib.hid h.kd
  clear h
  have hn2 : (2 : Int) < n := by have q : (n : Int) = 3 := (by simpa using hne); omega
  have hn3 : (1 : Int) < n := by omega
  obtain ⟨vvy, hvy⟩ : ∃ zz : Int, zz = (match valL y with | some n => (n : Int) | none => -1) := ⟨_, rfl⟩
  have HVy : Hid (∀ w, Calls Tryd.prog 68 #[.string ⟨y.toArray⟩] w fun e w' => e = .returned (.int .i64 vvy) ∧ Below w.heap.size w w') := Lib.hid (fun w => by rw [hvy]; exact rval_any y w hyl)
  have HBy : Hid (∀ w, Calls Tryd.prog 86 #[.string ⟨y.toArray⟩] w fun e w' => (∃ x : Int, e = .returned (.tuple #[.int .u64 x, .bool (bitsL y).isSome]) ∧ ∀ n, bitsL y = some n → x = (n : Int)) ∧ w = w') := Lib.hid (fun w => rbits_any y w hyl)
  have HCy := Lib.hid (fun (w' : World) (hw : Below w.heap.size w w') => (And.intro (((bcell hw).1 b (o + 1) hb).trans cy) (Nat.lt_of_lt_of_le hb hw.size) : w'.cell? ⟨b, o + 1, none⟩ = some (.string ⟨y.toArray⟩) ∧ b < w'.heap.size))
  clear cy
  rw [hbyy] at hvy
  simp only at hvy
  subst hvy
  obtain ⟨vvz, hvz⟩ : ∃ zz : Int, zz = (match valL z with | some n => (n : Int) | none => -1) := ⟨_, rfl⟩
  have HVz : Hid (∀ w, Calls Tryd.prog 68 #[.string ⟨z.toArray⟩] w fun e w' => e = .returned (.int .i64 vvz) ∧ Below w.heap.size w w') := Lib.hid (fun w => by rw [hvz]; exact rval_any z w hzl)
  have HBz : Hid (∀ w, Calls Tryd.prog 86 #[.string ⟨z.toArray⟩] w fun e w' => (∃ x : Int, e = .returned (.tuple #[.int .u64 x, .bool (bitsL z).isSome]) ∧ ∀ n, bitsL z = some n → x = (n : Int)) ∧ w = w') := Lib.hid (fun w => rbits_any z w hzl)
  have HCz := Lib.hid (fun (w' : World) (hw : Below w.heap.size w w') => (And.intro (((bcell hw).1 b (o + 2) hb).trans cz) (Nat.lt_of_lt_of_le hb hw.size) : w'.cell? ⟨b, o + 2, none⟩ = some (.string ⟨z.toArray⟩) ∧ b < w'.heap.size))
  clear cz
  rw [hbyz] at hvz
  simp only at hvz
  subst hvz
  have HC0 := Lib.hid (fun (w' : World) (hw : Below w.heap.size w w') => (And.intro (((bcell hw).1 b o hb).trans c0) (Nat.lt_of_lt_of_le hb hw.size) : w'.cell? ⟨b, o, none⟩ = some (.string ⟨a.toArray⟩) ∧ b < w'.heap.size))
  unfold RetOne
  have hn0 : (0 : Int) < n := by omega
  go_enter Tryd.func69, Tryd.ntmps69
  go_upto_region 2 with fail
  refine wp_named ?_
  intro W1 hW1
  have HI1 : Hid (Blk W1 (w.heap.size + 1) [.int .i64 (-1), .int .u64 0, .int .i64 0, .int .i64 0]) := Lib.hid (by
    have q := blk_new (w.alloc (.cells #[.int .i64 0, .int .u64 0, .int .i64 0, .int .i64 0] 42)) #[.int .i64 (-1), .int .u64 0, .int .i64 0, .int .i64 0] 42
    rw [World.size_alloc] at q
    rw [hW1]; exact q)
  have HR1 : Hid (Blk W1 w.heap.size [.int .i64 0, .int .u64 0, .int .i64 0, .int .i64 0]) := Lib.hid (by rw [hW1]; exact blk_alloc (blk_new _ _ _) _)
  have HB1 : Hid (Below w.heap.size w W1) := Lib.hid (by rw [hW1]; exact b_alloc (b_alloc (Below.refl _ _) _) _)
  clear hW1
  go_wp2_with fail
  refine (names_any _).mono ?_
  rintro e w2 ⟨rfl, hw2⟩
  have HN2 : Hid (InAt w w2 w.heap.size (w.heap.size + 1) W1.heap.size (lastOp a 0) 0 0 0) := Lib.hid (by
    rw [hw2]
    refine ⟨blk_alloc HI1.out _, blk_alloc HR1.out _, fun k hk => ?_, b_alloc HB1.out _, by simp, by omega, by have := HI1.out.1; omega, Nat.le_refl _, by omega⟩
    have q := (World.cell?_alloc_new W1 nameTab 9 k).trans (names_at k hk)
    rw [q]
    show some (Value.string (nameS k)) = some (.string ⟨(nameS k).data.toList.toArray⟩)
    rw [barr])
  have hz : b < w.heap.size := hb
  clear hw2 HI1 HR1 c0
  generalize W1.heap.size = nb at *
  go_wp2_with fail
  go_loopw [15] (fun i wr => ∃ k : Nat, k ≤ 37 ∧ i = .int .i64 k ∧ Hid (InAt w wr w.heap.size (w.heap.size + 1) nb (lastOp a k) 0 0 0)) (fun i _ => 37 - (intOf i).toNat)
  case atStart => exact ⟨0, Nat.zero_le _, rfl, HN2⟩
  case round =>
    obtain ⟨k, hk, rfl, HA⟩ := hrel
    have hk0 : (0 : Int) ≤ k := by omega
    have HC := Lib.hid HC0.out
    by_cases hlt : k < 37
    · have k37 : (k : Int) < 37 := by omega
      have c0 := (HC.out wr HA.out.be).1
      have cN := HA.out.n k hlt
      obtain ⟨i0, i1, i2, i3, jf⟩ := blk4 HA.out.i
      have iz := HA.out.i.1
      have nz := HA.out.nz
      cases hq : (nameL k == a) with
      | true =>
        have HL : Hid (lastOp a (k + 1) = (k : Int)) := Lib.hid (by show (if nameL k = a then _ else _) = _; rw [if_pos (by simpa using hq)])
        have HS := Lib.hid (in_set (o' := (k : Int)) (x' := 0) (p' := 0) (q' := 0) HA.out 0 (.int .i64 k) rfl)
        go_wp2_with fail
        go_roundw
        case rel => exact ⟨k + 1, by omega, by first | rfl | trivial | go_num, Lib.hid (by rw [HL.out]; exact HS.out)⟩
        case measure => simp [intOf]; omega
      | false =>
        have HL : Hid (lastOp a (k + 1) = lastOp a k) := Lib.hid (by show (if nameL k = a then _ else _) = _; rw [if_neg (by simpa using hq)])
        go_wp2_with fail
        go_roundw
        case rel => exact ⟨k + 1, by omega, by first | rfl | trivial | go_num, Lib.hid (by rw [HL.out]; exact HA.out)⟩
        case measure => simp [intOf]; omega
    · have hke : k = 37 := by omega
      subst hke
      have HA3 : Hid (InAt w wr w.heap.size (w.heap.size + 1) nb (kk : Int) 0 0 0) := Lib.hid (by rw [← HOP.out]; exact HA.out)
      clear HA HN2
      obtain ⟨i0, i1, i2, i3, jf⟩ := blk4 HA3.out.i
      have iz := HA3.out.i.1
      have HT := Lib.hid (fun w => told_any (kk : Int) w)
      rw [HKD.out] at HT
      go_wp2_with fail
      refine (HT.out _).mono ?_
      rintro e w4 ⟨rfl, hb4⟩
      have HA4 := Lib.hid (in_below HA3.out hb4)
      clear hb4 HA3 i0 i1 i2 i3 jf iz HT
      obtain ⟨i0, i1, i2, i3, jf⟩ := blk4 HA4.out.i
      have iz := HA4.out.i.1
      obtain ⟨r0, r1, r2, r3, rf⟩ := blk4 HA4.out.r
      have rz := HA4.out.r.1
      unfold tellS
      have hk0' : (0 : Int) ≤ (kk : Int) := by omega
      have hv0 : (0 : Int) ≤ (v : Int) := by omega
      go_wp2_with fail
      go_loopw [8] (fun i wr => (i = .int .i64 0 ∧ Hid (InAt w wr w.heap.size (w.heap.size + 1) nb kk 0 0 0)) ∨ (i = .int .i64 1 ∧ Hid (InAt w wr w.heap.size (w.heap.size + 1) nb kk 0 v 0))) (fun i _ => 2 - (intOf i).toNat)
      case atStart => exact Or.inl ⟨rfl, HA4⟩
      case round =>
        clear i0 i1 i2 i3 jf iz r0 r1 r2 r3 rf rz
        rcases hrel with ⟨rfl, HQ⟩ | ⟨rfl, HQ⟩
        · skip
          obtain ⟨i0, i1, i2, i3, jf⟩ := blk4 HQ.out.i
          have iz := HQ.out.i.1
          obtain ⟨r0, r1, r2, r3, rf⟩ := blk4 HQ.out.r
          have rz := HQ.out.r.1
          have cy := (HCy.out _ HQ.out.be).1
          have cb := (HCy.out _ HQ.out.be).2
          go_wp2_with fail
          refine (HVy.out _).mono ?_
          rintro e w5 ⟨rfl, hb5⟩
          have HA5 := Lib.hid (in_below HQ.out hb5)
          clear hb5 i0 i1 i2 i3 jf iz r0 r1 r2 r3 rf rz cy cb
          obtain ⟨i0, i1, i2, i3, jf⟩ := blk4 HA5.out.i
          have iz := HA5.out.i.1
          obtain ⟨r0, r1, r2, r3, rf⟩ := blk4 HA5.out.r
          have rz := HA5.out.r.1
          have cy := (HCy.out _ HA5.out.be).1
          have cb := (HCy.out _ HA5.out.be).2
          go_wp2_with fail
          refine (HBy.out _).mono ?_
          rintro e w6 ⟨⟨x, rfl, hx⟩, rfl⟩
          have HA6 := Lib.hid (in_set (o' := (kk : Int)) (x' := 0) (p' := v) (q' := 0) HA5.out 2 (.int .i64 ((v : Int))) rfl)
          go_wp2_with fail
          go_roundw
          case rel => exact Or.inr ⟨rfl, HA6⟩
          case measure => simp [intOf]
        · skip
          obtain ⟨i0, i1, i2, i3, jf⟩ := blk4 HQ.out.i
          have iz := HQ.out.i.1
          obtain ⟨r0, r1, r2, r3, rf⟩ := blk4 HQ.out.r
          have rz := HQ.out.r.1
          have cy := (HCz.out _ HQ.out.be).1
          have cb := (HCz.out _ HQ.out.be).2
          go_wp2_with fail
          refine (HVz.out _).mono ?_
          rintro e w5 ⟨rfl, hb5⟩
          have HA5 := Lib.hid (in_below HQ.out hb5)
          clear hb5 i0 i1 i2 i3 jf iz r0 r1 r2 r3 rf rz cy cb
          obtain ⟨i0, i1, i2, i3, jf⟩ := blk4 HA5.out.i
          have iz := HA5.out.i.1
          obtain ⟨r0, r1, r2, r3, rf⟩ := blk4 HA5.out.r
          have rz := HA5.out.r.1
          have cy := (HCz.out _ HA5.out.be).1
          have cb := (HCz.out _ HA5.out.be).2
          go_wp2_with fail
          refine (HBz.out _).mono ?_
          rintro e w6 ⟨⟨x, rfl, hx⟩, rfl⟩
          have HA6 := Lib.hid (in_set (o' := (kk : Int)) (x' := 0) (p' := v) (q' := -1) HA5.out 3 (.int .i64 (-1)) rfl)
          go_wp2_with fail
          refine post_named ?_
          intro wF hwF
          have BF : Blk wF w.heap.size [.int .i64 kk, .int .u64 (0), .int .i64 (v), .int .i64 (-1)] := by rw [hwF]; exact blk_set (blk_set (blk_set (blk_set HA6.out.r 0 _) 1 _) 2 _) 3 _
          have FB : Below w.heap.size w wF := by rw [hwF]; exact b_set (b_set (b_set (b_set HA6.out.be (Nat.le_refl _) _) (Nat.le_refl _) _) (Nat.le_refl _) _) (Nat.le_refl _) _
          clear hwF
          obtain ⟨q0, q1, q2, q3, _⟩ := blk4 BF
          exact bodyPost_ret (v := .tuple #[.agg #[.int .i64 kk, .int .u64 (0), .int .i64 (v), .int .i64 (-1)], .bool false]) (by simp [results, Tryd.results69, go_sem, q0, q1, q2, q3]) rfl ⟨_, _, _, _, rfl, FB⟩
set_option maxRecDepth 100000 in
set_option maxHeartbeats 4000000 in
theorem rin_3m {w : World} {b o n cap : Nat} {a : List UInt8} {kk : Nat} {y z : List UInt8} (hyl : y.length ≤ 1000000) (hzl : z.length ≤ 1000000) (cy : w.cell? ⟨b, o + 1, none⟩ = some (.string ⟨y.toArray⟩)) (cz : w.cell? ⟨b, o + 2, none⟩ = some (.string ⟨z.toArray⟩)) (hne : ((n : Int) != 3) = false) (hbyy : valL y = none) (h : InIn w b o n cap a 3 (kk : Int)) : Calls Tryd.prog 69 #[.slice (some ⟨b, o, none⟩) n cap] w (fun e w' => ∃ o x p q : Int, RetOne o x p q false w e w') := by
  have hn1 := h.n1
  have hnc := h.nc
  have hcm := h.cm
  have hb := h.hb
  have c0 := h.c0
  have HOP := Lib.hid h.lo
  have HKD := Lib.hid h.kd
  clear h
  have hn2 : (2 : Int) < n := by have q : (n : Int) = 3 := (by simpa using hne); omega
  have hn3 : (1 : Int) < n := by omega
  obtain ⟨vvy, hvy⟩ : ∃ zz : Int, zz = (match valL y with | some n => (n : Int) | none => -1) := ⟨_, rfl⟩
  have HVy : Hid (∀ w, Calls Tryd.prog 68 #[.string ⟨y.toArray⟩] w fun e w' => e = .returned (.int .i64 vvy) ∧ Below w.heap.size w w') := Lib.hid (fun w => by rw [hvy]; exact rval_any y w hyl)
  have HBy : Hid (∀ w, Calls Tryd.prog 86 #[.string ⟨y.toArray⟩] w fun e w' => (∃ x : Int, e = .returned (.tuple #[.int .u64 x, .bool (bitsL y).isSome]) ∧ ∀ n, bitsL y = some n → x = (n : Int)) ∧ w = w') := Lib.hid (fun w => rbits_any y w hyl)
  have HCy := Lib.hid (fun (w' : World) (hw : Below w.heap.size w w') => (And.intro (((bcell hw).1 b (o + 1) hb).trans cy) (Nat.lt_of_lt_of_le hb hw.size) : w'.cell? ⟨b, o + 1, none⟩ = some (.string ⟨y.toArray⟩) ∧ b < w'.heap.size))
  clear cy
  rw [hbyy] at hvy
  simp only at hvy
  subst hvy
  obtain ⟨vvz, hvz⟩ : ∃ zz : Int, zz = (match valL z with | some n => (n : Int) | none => -1) := ⟨_, rfl⟩
  have HVz : Hid (∀ w, Calls Tryd.prog 68 #[.string ⟨z.toArray⟩] w fun e w' => e = .returned (.int .i64 vvz) ∧ Below w.heap.size w w') := Lib.hid (fun w => by rw [hvz]; exact rval_any z w hzl)
  have HBz : Hid (∀ w, Calls Tryd.prog 86 #[.string ⟨z.toArray⟩] w fun e w' => (∃ x : Int, e = .returned (.tuple #[.int .u64 x, .bool (bitsL z).isSome]) ∧ ∀ n, bitsL z = some n → x = (n : Int)) ∧ w = w') := Lib.hid (fun w => rbits_any z w hzl)
  have HCz := Lib.hid (fun (w' : World) (hw : Below w.heap.size w w') => (And.intro (((bcell hw).1 b (o + 2) hb).trans cz) (Nat.lt_of_lt_of_le hb hw.size) : w'.cell? ⟨b, o + 2, none⟩ = some (.string ⟨z.toArray⟩) ∧ b < w'.heap.size))
  clear cz
  clear hvz
  have HC0 := Lib.hid (fun (w' : World) (hw : Below w.heap.size w w') => (And.intro (((bcell hw).1 b o hb).trans c0) (Nat.lt_of_lt_of_le hb hw.size) : w'.cell? ⟨b, o, none⟩ = some (.string ⟨a.toArray⟩) ∧ b < w'.heap.size))
  unfold RetOne
  have hn0 : (0 : Int) < n := by omega
  go_enter Tryd.func69, Tryd.ntmps69
  go_upto_region 2 with fail
  refine wp_named ?_
  intro W1 hW1
  have HI1 : Hid (Blk W1 (w.heap.size + 1) [.int .i64 (-1), .int .u64 0, .int .i64 0, .int .i64 0]) := Lib.hid (by
    have q := blk_new (w.alloc (.cells #[.int .i64 0, .int .u64 0, .int .i64 0, .int .i64 0] 42)) #[.int .i64 (-1), .int .u64 0, .int .i64 0, .int .i64 0] 42
    rw [World.size_alloc] at q
    rw [hW1]; exact q)
  have HR1 : Hid (Blk W1 w.heap.size [.int .i64 0, .int .u64 0, .int .i64 0, .int .i64 0]) := Lib.hid (by rw [hW1]; exact blk_alloc (blk_new _ _ _) _)
  have HB1 : Hid (Below w.heap.size w W1) := Lib.hid (by rw [hW1]; exact b_alloc (b_alloc (Below.refl _ _) _) _)
  clear hW1
  go_wp2_with fail
  refine (names_any _).mono ?_
  rintro e w2 ⟨rfl, hw2⟩
  have HN2 : Hid (InAt w w2 w.heap.size (w.heap.size + 1) W1.heap.size (lastOp a 0) 0 0 0) := Lib.hid (by
    rw [hw2]
    refine ⟨blk_alloc HI1.out _, blk_alloc HR1.out _, fun k hk => ?_, b_alloc HB1.out _, by simp, by omega, by have := HI1.out.1; omega, Nat.le_refl _, by omega⟩
    have q := (World.cell?_alloc_new W1 nameTab 9 k).trans (names_at k hk)
    rw [q]
    show some (Value.string (nameS k)) = some (.string ⟨(nameS k).data.toList.toArray⟩)
    rw [barr])
  have hz : b < w.heap.size := hb
  clear hw2 HI1 HR1 c0
  generalize W1.heap.size = nb at *
  go_wp2_with fail
  go_loopw [15] (fun i wr => ∃ k : Nat, k ≤ 37 ∧ i = .int .i64 k ∧ Hid (InAt w wr w.heap.size (w.heap.size + 1) nb (lastOp a k) 0 0 0)) (fun i _ => 37 - (intOf i).toNat)
  case atStart => exact ⟨0, Nat.zero_le _, rfl, HN2⟩
  case round =>
    obtain ⟨k, hk, rfl, HA⟩ := hrel
    have hk0 : (0 : Int) ≤ k := by omega
    have HC := Lib.hid HC0.out
    by_cases hlt : k < 37
    · have k37 : (k : Int) < 37 := by omega
      have c0 := (HC.out wr HA.out.be).1
      have cN := HA.out.n k hlt
      obtain ⟨i0, i1, i2, i3, jf⟩ := blk4 HA.out.i
      have iz := HA.out.i.1
      have nz := HA.out.nz
      cases hq : (nameL k == a) with
      | true =>
        have HL : Hid (lastOp a (k + 1) = (k : Int)) := Lib.hid (by show (if nameL k = a then _ else _) = _; rw [if_pos (by simpa using hq)])
        have HS := Lib.hid (in_set (o' := (k : Int)) (x' := 0) (p' := 0) (q' := 0) HA.out 0 (.int .i64 k) rfl)
        go_wp2_with fail
        go_roundw
        case rel => exact ⟨k + 1, by omega, by first | rfl | trivial | go_num, Lib.hid (by rw [HL.out]; exact HS.out)⟩
        case measure => simp [intOf]; omega
      | false =>
        have HL : Hid (lastOp a (k + 1) = lastOp a k) := Lib.hid (by show (if nameL k = a then _ else _) = _; rw [if_neg (by simpa using hq)])
        go_wp2_with fail
        go_roundw
        case rel => exact ⟨k + 1, by omega, by first | rfl | trivial | go_num, Lib.hid (by rw [HL.out]; exact HA.out)⟩
        case measure => simp [intOf]; omega
    · have hke : k = 37 := by omega
      subst hke
      have HA3 : Hid (InAt w wr w.heap.size (w.heap.size + 1) nb (kk : Int) 0 0 0) := Lib.hid (by rw [← HOP.out]; exact HA.out)
      clear HA HN2
      obtain ⟨i0, i1, i2, i3, jf⟩ := blk4 HA3.out.i
      have iz := HA3.out.i.1
      have HT := Lib.hid (fun w => told_any (kk : Int) w)
      rw [HKD.out] at HT
      go_wp2_with fail
      refine (HT.out _).mono ?_
      rintro e w4 ⟨rfl, hb4⟩
      have HA4 := Lib.hid (in_below HA3.out hb4)
      clear hb4 HA3 i0 i1 i2 i3 jf iz HT
      obtain ⟨i0, i1, i2, i3, jf⟩ := blk4 HA4.out.i
      have iz := HA4.out.i.1
      obtain ⟨r0, r1, r2, r3, rf⟩ := blk4 HA4.out.r
      have rz := HA4.out.r.1
      unfold tellS
      have hk0' : (0 : Int) ≤ (kk : Int) := by omega
      go_wp2_with fail
      go_loopw [8] (fun i wr => i = .int .i64 0 ∧ Hid (InAt w wr w.heap.size (w.heap.size + 1) nb kk 0 0 0)) (fun i _ => 2 - (intOf i).toNat)
      case atStart => exact ⟨rfl, HA4⟩
      case round =>
        clear i0 i1 i2 i3 jf iz r0 r1 r2 r3 rf rz
        rcases hrel with ⟨rfl, HQ⟩
        · skip
          obtain ⟨i0, i1, i2, i3, jf⟩ := blk4 HQ.out.i
          have iz := HQ.out.i.1
          obtain ⟨r0, r1, r2, r3, rf⟩ := blk4 HQ.out.r
          have rz := HQ.out.r.1
          have cy := (HCy.out _ HQ.out.be).1
          have cb := (HCy.out _ HQ.out.be).2
          go_wp2_with fail
          refine (HVy.out _).mono ?_
          rintro e w5 ⟨rfl, hb5⟩
          have HA5 := Lib.hid (in_below HQ.out hb5)
          clear hb5 i0 i1 i2 i3 jf iz r0 r1 r2 r3 rf rz cy cb
          obtain ⟨i0, i1, i2, i3, jf⟩ := blk4 HA5.out.i
          have iz := HA5.out.i.1
          obtain ⟨r0, r1, r2, r3, rf⟩ := blk4 HA5.out.r
          have rz := HA5.out.r.1
          have cy := (HCy.out _ HA5.out.be).1
          have cb := (HCy.out _ HA5.out.be).2
          go_wp2_with fail
          refine (HBy.out _).mono ?_
          rintro e w6 ⟨⟨x, rfl, hx⟩, rfl⟩
          have HA6 := Lib.hid (in_set (o' := (kk : Int)) (x' := 0) (p' := -1) (q' := 0) HA5.out 2 (.int .i64 (-1)) rfl)
          go_wp2_with fail
          refine post_named ?_
          intro wF hwF
          have BF : Blk wF w.heap.size [.int .i64 kk, .int .u64 (0), .int .i64 (-1), .int .i64 (0)] := by rw [hwF]; exact blk_set (blk_set (blk_set (blk_set HA6.out.r 0 _) 1 _) 2 _) 3 _
          have FB : Below w.heap.size w wF := by rw [hwF]; exact b_set (b_set (b_set (b_set HA6.out.be (Nat.le_refl _) _) (Nat.le_refl _) _) (Nat.le_refl _) _) (Nat.le_refl _) _
          clear hwF
          obtain ⟨q0, q1, q2, q3, _⟩ := blk4 BF
          exact bodyPost_ret (v := .tuple #[.agg #[.int .i64 kk, .int .u64 (0), .int .i64 (-1), .int .i64 (0)], .bool false]) (by simp [results, Tryd.results69, go_sem, q0, q1, q2, q3]) rfl ⟨_, _, _, _, rfl, FB⟩
end Go.Proofs.YtedmjlhgpdeafaaDoor
