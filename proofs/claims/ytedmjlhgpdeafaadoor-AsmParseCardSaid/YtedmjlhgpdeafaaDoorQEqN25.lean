/- Layer 25: are two lists of instructions the same. Conditions: the lists are read as such. Layer 25: are two functions, or two programs, the same. Conditions: they read as lists, and are not too great. -/
import Derived.Test.YtedmjlhgpdeafaaDoorQMayR25
import Derived.Laws.StructEq
namespace Go.Proofs.YtedmjlhgpdeafaaDoor
section
open Go.RowKit
set_option linter.unusedVariables false
set_option linter.unusedSimpArgs false
theorem neqIn (o1 x1 a1 b1 o2 x2 a2 b2 : Int) (w : World) : (binOp .neq 45 (.agg #[.int .i64 o1, .int .u64 x1, .int .i64 a1, .int .i64 b1]) (.agg #[.int .i64 o2, .int .u64 x2, .int .i64 a2, .int .i64 b2])).run Tryd.prog w = .ok (.bool (!(o1 == o2 && (x1 == x2 && (a1 == a2 && b1 == b2))))) w := by
  have hS : Tryd.prog.underlying 45 = some (.struct (Tryd.prog.fieldsOf 45)) := by kernel_rfl
  have hp : Tryd.prog.stoodInHeld 45 = false := by kernel_rfl
  rw [run_neq_struct, show (10000 : Nat) = 9999 + 1 from rfl, run_equalIn_agg w 9999 _ _ _ hS hp]
  simp only [Program.fieldsOf, Tryd.underlying45]
  go_simp
  by_cases h1 : o1 = o2 <;> by_cases h2 : x1 = x2 <;> by_cases h3 : a1 = a2 <;> by_cases h4 : b1 = b2 <;> simp [h1, h2, h3, h4]
theorem guardIn (op : BinOp) (a b : Operand) (xs ys : Array Value) (w : World) : Sem.run Tryd.prog (eqGuard op 45 a b (.agg xs) (.agg ys)) w = .ok () w := run_eqGuard_agg w op _ a b xs ys (by kernel_rfl)
theorem in4_ext {x y : In4} (h : (x.op == y.op && (x.x == y.x && (x.a == y.a && x.b == y.b))) = true) : x = y := by
  obtain ⟨a, b, c, d⟩ := x; obtain ⟨a', b', c', d'⟩ := y
  simp only [Bool.and_eq_true, beq_iff_eq] at h
  obtain ⟨rfl, rfl, rfl, rfl⟩ := h; rfl
set_option maxHeartbeats 2000000 in
theorem eqN_any (u v : Value) (xs ys : List In4) (w : World) (h : ReadR inE w u xs) (h' : ReadR inE w v ys) (hl : xs.length ≤ 274877906944) (hl' : ys.length ≤ 274877906944) :
    Calls Tryd.prog 62 #[u, v] w fun e w' => ∃ b, e = .returned (.bool b) ∧ (b = true ↔ xs = ys) ∧ Below w.heap.size w w' := by
  by_cases hn : xs.length = ys.length
  · by_cases h0 : 0 < xs.length
    · obtain ⟨b, o, cap, rfl, h1, h2, h3, h4⟩ := readR_pos h h0
      obtain ⟨b', o', cap', rfl, g1, g2, g3, g4⟩ := readR_pos h' (by omega)
      have t0 : ((xs.length : Int) != (ys.length : Int)) = false := by rw [hn]; simp
      have HN := Lib.hid hn
      have hn1 : xs.length ≤ ys.length := by omega
      have H4 := Lib.hid h4
      have G4 := Lib.hid g4
      clear h h' hn h4 g4
      go_enter Tryd.func62, Tryd.ntmps62
      go_wp2
      go_loopw [13] (fun i wr => ∃ k : Nat, k ≤ xs.length ∧ i = .int .i64 k ∧ Hid (xs.take k = ys.take k) ∧ Below w.heap.size w wr) (fun i _ => xs.length - (intOf i).toNat)
      case atStart => exact ⟨0, Nat.zero_le _, rfl, rfl, Below.refl _ _⟩
      case round =>
        obtain ⟨k, hk, rfl, hi, hb⟩ := hrel
        by_cases hlt : k < xs.length
        · have hlt' : k < ys.length := by omega
          have hc := in_cells H4.out k hlt
          have hd := in_cells G4.out k hlt'
          rw [← (bcell hb).1 _ _ h3, ← (bcell hb).1 _ _ h3, ← (bcell hb).1 _ _ h3, ← (bcell hb).1 _ _ h3] at hc
          rw [← (bcell hb).1 _ _ g3, ← (bcell hb).1 _ _ g3, ← (bcell hb).1 _ _ g3, ← (bcell hb).1 _ _ g3] at hd
          have HX : Hid (xs[k] = ys[k] → xs.take (k + 1) = ys.take (k + 1)) := fun e => by rw [List.take_succ_eq_append_getElem hlt, List.take_succ_eq_append_getElem hlt', hi.out, e]
          have HY : Hid (xs[k] ≠ ys[k] → xs ≠ ys) := fun e q => e (by subst q; rfl)
          have k1 : (k : Int) < xs.length := by omega
          have k2 : (k : Int) < ys.length := by omega
          have k0 : (0 : Int) ≤ k := by omega
          generalize xs[k] = x at *
          generalize ys[k] = y at *
          obtain ⟨x1, x2, x3, x4⟩ := x
          obtain ⟨y1, y2, y3, y4⟩ := y
          simp only at hc hd
          obtain ⟨c0, c1, c2, c3⟩ := hc
          obtain ⟨d0, d1, d2, d3⟩ := hd
          obtain ⟨q, hq⟩ : ∃ q, q = (x1 == y1 && (x2 == y2 && (x3 == y3 && x4 == y4))) := ⟨_, rfl⟩
          cases q
          · have t : (x1 == y1 && (x2 == y2 && (x3 == y3 && x4 == y4))) = false := hq.symm
            clear hq
            have hne' : ∀ w : World, (binOp .neq 45 (.agg #[.int .i64 x1, .int .u64 x2, .int .i64 x3, .int .i64 x4]) (.agg #[.int .i64 y1, .int .u64 y2, .int .i64 y3, .int .i64 y4])).run Tryd.prog w = .ok (.bool true) w := fun w => by rw [neqIn, t]; rfl
            have hgd' : ∀ (op : BinOp) (a b : Operand) (xs ys : Array Value) (w : World), Sem.run Tryd.prog (eqGuard op 45 a b (.agg xs) (.agg ys)) w = .ok () w := guardIn
            have T := Lib.hid t; clear t
            go_wp2_with fail
            go_quiet (fail)
            go_wp2
            go_ret
            refine ⟨_, rfl, ?_, b_drewN hb _⟩
            have hne := HY.out (by intro e; cases e; have t := T.out; simp at t)
            simp [hne]
          · have t : (x1 == y1 && (x2 == y2 && (x3 == y3 && x4 == y4))) = true := hq.symm
            clear hq
            have hne' : ∀ w : World, (binOp .neq 45 (.agg #[.int .i64 x1, .int .u64 x2, .int .i64 x3, .int .i64 x4]) (.agg #[.int .i64 y1, .int .u64 y2, .int .i64 y3, .int .i64 y4])).run Tryd.prog w = .ok (.bool false) w := fun w => by rw [neqIn, t]; rfl
            have hgd' : ∀ (op : BinOp) (a b : Operand) (xs ys : Array Value) (w : World), Sem.run Tryd.prog (eqGuard op 45 a b (.agg xs) (.agg ys)) w = .ok () w := guardIn
            have T := Lib.hid t; clear t
            go_wp2_with fail
            go_quiet (fail)
            go_wp2
            go_roundw
            case rel => exact ⟨k + 1, by omega, by first | rfl | trivial | go_num, HX.out (in4_ext T.out), b_drewN hb _⟩
            case measure => simp [intOf]; omega
        · go_wp2
          go_ret
          have he : xs = ys := by
            have q := hi.out
            rw [List.take_of_length_le (by omega), List.take_of_length_le (by have := HN.out; omega)] at q; exact q
          exact ⟨_, rfl, by simp [he], hb⟩
    · obtain ⟨a, cap, rfl, _⟩ := readR_len h
      obtain ⟨a', cap', rfl, _⟩ := readR_len h'
      have hx : xs = [] := List.eq_nil_of_length_eq_zero (by omega)
      have hy : ys = [] := List.eq_nil_of_length_eq_zero (by omega)
      subst hx; subst hy
      clear h h' hn h0
      go_enter Tryd.func62, Tryd.ntmps62
      go_wp2
      go_loopw [13] (fun i wr => i = .int .i64 0 ∧ Below w.heap.size w wr) (fun _ _ => 0)
      case atStart => exact ⟨rfl, Below.refl _ _⟩
      case round =>
        obtain ⟨rfl, hb⟩ := hrel
        go_wp2
        go_ret
        exact ⟨_, rfl, by simp, hb⟩
  · obtain ⟨a, cap, rfl, _⟩ := readR_len h
    obtain ⟨a', cap', rfl, _⟩ := readR_len h'
    have t0 : ((xs.length : Int) != (ys.length : Int)) = true := by rw [bne_iff_ne]; omega
    have hne : xs ≠ ys := fun e => hn (by rw [e])
    have HN := Lib.hid hne
    clear hn h h'
    go_enter Tryd.func62, Tryd.ntmps62
    go_wp2_with fail
    go_ret
    exact ⟨_, rfl, by simp [HN.out], Below.refl _ _⟩
end
section
open Go.RowKit
set_option linter.unusedVariables false
set_option linter.unusedSimpArgs false
attribute [local go_sem] over_cell over_frozen
/-- Whether two are the same. -/
def SameEnd {α : Type} (x y : α) (W : World) (e : Ending) (w' : World) : Prop := ∃ b, e = .returned (.bool b) ∧ (b = true ↔ x = y) ∧ Below W.heap.size W w'
theorem eqI_same (u v : Value) (xs ys : List Int) (w : World) (h : ReadI w u xs) (h' : ReadI w v ys) (hl : xs.length ≤ 274877906944) (hl' : ys.length ≤ 274877906944) : Calls Tryd.prog 31 #[u, v] w (SameEnd xs ys w) :=
  (eqI_any u v xs ys w h h' hl hl').mono fun e w' ⟨h1, h2⟩ => ⟨_, h1, by simp, h2⟩
theorem eqN_same (u v : Value) (xs ys : List In4) (w : World) (h : ReadR inE w u xs) (h' : ReadR inE w v ys) (hl : xs.length ≤ 274877906944) (hl' : ys.length ≤ 274877906944) : Calls Tryd.prog 62 #[u, v] w (SameEnd xs ys w) :=
  (eqN_any u v xs ys w h h' hl hl').mono fun e w' ⟨b, h1, h2, h3⟩ => ⟨b, h1, h2, h3⟩
set_option maxRecDepth 100000 in
set_option maxHeartbeats 2000000 in
theorem same25_any (v1 v2 : FnV) (f1 f2 : FnM) (w : World) (h1 : DeepF w v1 f1) (h2 : DeepF w v2 f2) (s1 : SmallF f1) (s2 : SmallF f2) :
    Calls Tryd.prog 33 #[.agg #[v1.p.v, v1.l.v, .int .i64 v1.r, v1.c.v], .agg #[v2.p.v, v2.l.v, .int .i64 v2.r, v2.c.v]] w (SameEnd f1 f2 w) := by
  obtain ⟨⟨pa, pn, pc⟩, ⟨la, ln, lc⟩, r, ⟨ca, cn, cc⟩⟩ := v1
  obtain ⟨⟨pa', pn', pc'⟩, ⟨la', ln', lc'⟩, r', ⟨ca', cn', cc'⟩⟩ := v2
  obtain ⟨ps, ls, r1, code⟩ := f1
  obtain ⟨ps', ls', r2, code'⟩ := f2
  obtain ⟨dp, dl, dr, dc⟩ := h1
  obtain ⟨dp', dl', dr', dc'⟩ := h2
  obtain ⟨sp, sl, sc⟩ := s1
  obtain ⟨sp', sl', sc'⟩ := s2
  simp only at dr dr' sp sl sc sp' sl' sc'
  subst dr; subst dr'
  have HP := Lib.hid (show ReadI w (.slice pa pn pc) ps from dp)
  have HL := Lib.hid (show ReadI w (.slice la ln lc) ls from dl)
  have HC := Lib.hid (show ReadR inE w (.slice ca cn cc) code from dc)
  have HP' := Lib.hid (show ReadI w (.slice pa' pn' pc') ps' from dp')
  have HL' := Lib.hid (show ReadI w (.slice la' ln' lc') ls' from dl')
  have HC' := Lib.hid (show ReadR inE w (.slice ca' cn' cc') code' from dc')
  have HS := Lib.hid (And.intro (And.intro sp sp') (And.intro (And.intro sl sl') (And.intro sc sc')))
  clear dp dl dc dp' dl' dc' sp sl sc sp' sl' sc'
  unfold Sl.v
  simp only
  have HB0 := Lib.hid (b_alloc (b_alloc (Below.refl w.heap.size w) (.cells #[.slice pa pn pc, .slice la ln lc, .int .i64 r, .slice ca cn cc] 63)) (.cells #[.slice pa' pn' pc', .slice la' ln' lc', .int .i64 r', .slice ca' cn' cc'] 63))
  go_enter Tryd.func33, Tryd.ntmps33
  go_wp2_with fail
  refine (eqI_same _ _ ps ps' _ (readI_below HP.out HB0.out) (readI_below HP'.out HB0.out) (by have := HS.out; omega) (by have := HS.out; omega)).mono ?_
  rintro e w1 ⟨t1, rfl, ht1, hb1⟩
  have T1 := Lib.hid ht1
  have HB1 := Lib.hid (b_call HB0.out hb1)
  obtain ⟨hc1, hf1⟩ := bcell hb1
  have hz1 := hb1.size
  simp only [World.size_alloc] at hz1
  have z0 : w.heap.size < w1.heap.size := by omega
  have z1 : w.heap.size + 1 < w1.heap.size := by omega
  clear ht1 hb1 hz1
  cases t1
  · go_wp2_with fail
    go_ret
    exact ⟨_, rfl, by have := T1.out; simp at this; simp [this], HB1.out⟩
  go_wp2_with fail
  refine (eqI_same _ _ ls ls' _ (readI_below HL.out HB1.out) (readI_below HL'.out HB1.out) (by have := HS.out; omega) (by have := HS.out; omega)).mono ?_
  rintro e w2 ⟨t2, rfl, ht2, hb2⟩
  have T2 := Lib.hid ht2
  have HB2 := Lib.hid (b_call HB1.out hb2)
  obtain ⟨hc2, hf2⟩ := bcell hb2
  have hz2 := hb2.size
  have y0 : w.heap.size < w2.heap.size := by omega
  have y1 : w.heap.size + 1 < w2.heap.size := by omega
  clear ht2 hb2 hz2
  cases t2
  · go_wp2_with fail
    go_ret
    exact ⟨_, rfl, by have := T2.out; simp at this; simp [this], HB2.out⟩
  by_cases hr : r = r'
  · have tr : (r == r') = true := by rw [hr]; simp
    have HR := Lib.hid hr
    clear hr
    go_wp2_with fail
    refine (eqN_same _ _ code code' _ (readR_below HC.out HB2.out) (readR_below HC'.out HB2.out) (by have := HS.out; omega) (by have := HS.out; omega)).mono ?_
    rintro e w3 ⟨t3, rfl, ht3, hb3⟩
    have T3 := Lib.hid ht3
    have HB3 := Lib.hid (b_call HB2.out hb3)
    clear ht3 hb3
    cases t3
    · go_wp2_with fail
      go_ret
      exact ⟨_, rfl, by have := T3.out; simp at this; simp [this], HB3.out⟩
    · go_wp2_with fail
      go_ret
      exact ⟨_, rfl, by have a := T1.out; have b := T2.out; have c := T3.out; simp at a b c; simp [a, b, c, HR.out], HB3.out⟩
  · have tr : (r == r') = false := by simpa using hr
    have HR := Lib.hid hr
    clear hr
    go_wp2_with fail
    go_ret
    exact ⟨_, rfl, by have := HR.out; simp [this], HB2.out⟩
set_option maxRecDepth 100000 in
set_option maxHeartbeats 4000000 in
theorem eqF_any (u v : Value) (fs gs : List FnM) (w : World) (h : ReadFs w u fs) (h' : ReadFs w v gs) (hs : ∀ f ∈ fs, SmallF f) (hs' : ∀ f ∈ gs, SmallF f) (hl : fs.length ≤ 1000) (hl' : gs.length ≤ 1000) :
    Calls Tryd.prog 32 #[u, v, .func (.func 33) #[] #[]] w (SameEnd fs gs w) := by
  obtain ⟨L, hL, hA⟩ := h
  obtain ⟨M, hM, hB⟩ := h'
  have lf := allF_len hA
  have lg := allF_len hB
  by_cases hn : L.length = M.length
  · by_cases h0 : 0 < L.length
    · obtain ⟨b, o, cap, rfl, h1, h2, h3, h4⟩ := readR_pos hL h0
      obtain ⟨b', o', cap', rfl, g1, g2, g3, g4⟩ := readR_pos hM (by omega)
      have t0 : ((L.length : Int) != (M.length : Int)) = false := by rw [hn]; simp
      have hn1 : L.length ≤ M.length := by omega
      have HN := Lib.hid (And.intro hn (And.intro lf lg))
      have H4 := Lib.hid h4
      have G4 := Lib.hid g4
      have HA := Lib.hid hA
      have HB := Lib.hid hB
      have HS := Lib.hid hs
      have HS' := Lib.hid hs'
      have hm1 := cap_le h2
      have hm2 := cap_le g2
      have hl1 : L.length ≤ 1000 := by omega
      have hl2 : M.length ≤ 1000 := by omega
      clear hL hM hn lf lg h4 g4 hA hB hs hs' h2 g2
      go_enter Tryd.func32, Tryd.ntmps32
      go_wp2
      go_loopw [17] (fun i wr => ∃ k : Nat, k ≤ L.length ∧ i = .int .i64 k ∧ Hid (fs.take k = gs.take k) ∧ Hid (Below w.heap.size w wr)) (fun i _ => L.length - (intOf i).toNat)
      case atStart => exact ⟨0, Nat.zero_le _, rfl, rfl, Below.refl _ _⟩
      case round =>
        obtain ⟨k, hk, rfl, hi, hb⟩ := hrel
        by_cases hlt : k < L.length
        · have hlt' : k < M.length := by omega
          have hc := fn_cells H4.out k hlt
          have hd := fn_cells G4.out k hlt'
          rw [← (bcell hb.out).1 _ _ h3, ← (bcell hb.out).1 _ _ h3, ← (bcell hb.out).1 _ _ h3, ← (bcell hb.out).1 _ _ h3] at hc
          rw [← (bcell hb.out).1 _ _ g3, ← (bcell hb.out).1 _ _ g3, ← (bcell hb.out).1 _ _ g3, ← (bcell hb.out).1 _ _ g3] at hd
          have kf : k < fs.length := by have := HN.out; omega
          have kg : k < gs.length := by have := HN.out; omega
          have DF := Lib.hid (allF_at HA.out k hlt kf)
          have DG := Lib.hid (allF_at HB.out k hlt' kg)
          have SF := Lib.hid (HS.out _ (List.getElem_mem kf))
          have SG := Lib.hid (HS'.out _ (List.getElem_mem kg))
          have HX : Hid (fs[k] = gs[k] → fs.take (k + 1) = gs.take (k + 1)) := fun e => by rw [List.take_succ_eq_append_getElem kf, List.take_succ_eq_append_getElem kg, hi.out, e]
          have HY : Hid (fs[k] ≠ gs[k] → fs ≠ gs) := fun e q => e (by subst q; rfl)
          have k1 : (k : Int) < L.length := by omega
          have k2 : (k : Int) < M.length := by omega
          have k0 : (0 : Int) ≤ k := by omega
          have bh3 : b < wr.heap.size := Nat.lt_of_lt_of_le h3 hb.out.size
          have bg3 : b' < wr.heap.size := Nat.lt_of_lt_of_le g3 hb.out.size
          generalize fs[k] = f at *
          generalize gs[k] = g at *
          generalize L[k] = x at *
          generalize M[k] = y at *
          obtain ⟨⟨pa, pn, pc⟩, ⟨la, ln, lc⟩, r, ⟨ca, cn, cc⟩⟩ := x
          obtain ⟨⟨pa', pn', pc'⟩, ⟨la', ln', lc'⟩, r', ⟨ca', cn', cc'⟩⟩ := y
          simp only at hc hd
          obtain ⟨c0, c1, c2, c3⟩ := hc
          obtain ⟨d0, d1, d2, d3⟩ := hd
          go_wp2_with fail
          refine (same25_any ⟨⟨pa, pn, pc⟩, ⟨la, ln, lc⟩, r, ⟨ca, cn, cc⟩⟩ ⟨⟨pa', pn', pc'⟩, ⟨la', ln', lc'⟩, r', ⟨ca', cn', cc'⟩⟩ f g _ (deepF_below DF.out (b_alloc (b_alloc hb.out _) _)) (deepF_below DG.out (b_alloc (b_alloc hb.out _) _)) SF.out SG.out).mono ?_
          rintro e w1 ⟨t, rfl, ht, hb1⟩
          have HT := Lib.hid ht
          have HB1 := Lib.hid (b_call (b_alloc (b_alloc hb.out _) _) hb1)
          clear ht
          cases t
          · go_wp2_with fail
            go_ret
            exact ⟨_, rfl, by have q : f ≠ g := fun e => by have := HT.out.2 e; cases this
                              simp [HY.out q], HB1.out⟩
          · go_wp2_with fail
            go_roundw
            case rel => exact ⟨k + 1, by omega, by first | rfl | trivial | go_num, HX.out (HT.out.1 (by first | trivial | rfl)), HB1.out⟩
            case measure => simp [intOf]; omega
        · go_wp2
          go_ret
          have he : fs = gs := by
            have q := hi.out
            have := HN.out
            rw [List.take_of_length_le (by omega), List.take_of_length_le (by omega)] at q; exact q
          exact ⟨_, rfl, by simp [he], hb.out⟩
    · obtain ⟨a, cap, rfl, _⟩ := readR_len hL
      obtain ⟨a', cap', rfl, _⟩ := readR_len hM
      have hx : L = [] := List.eq_nil_of_length_eq_zero (by omega)
      have hy : M = [] := List.eq_nil_of_length_eq_zero (by omega)
      have hx2 : fs = [] := List.eq_nil_of_length_eq_zero (by omega)
      have hy2 : gs = [] := List.eq_nil_of_length_eq_zero (by omega)
      subst hx; subst hy; subst hx2; subst hy2
      clear hL hM hn h0 hA hB lf lg
      go_enter Tryd.func32, Tryd.ntmps32
      go_wp2
      go_loopw [17] (fun i wr => i = .int .i64 0 ∧ Below w.heap.size w wr) (fun _ _ => 0)
      case atStart => exact ⟨rfl, Below.refl _ _⟩
      case round =>
        obtain ⟨rfl, hb⟩ := hrel
        go_wp2
        go_ret
        exact ⟨_, rfl, by simp, hb⟩
  · obtain ⟨a, cap, rfl, _⟩ := readR_len hL
    obtain ⟨a', cap', rfl, _⟩ := readR_len hM
    have t0 : ((L.length : Int) != (M.length : Int)) = true := by rw [bne_iff_ne]; omega
    have hne : fs ≠ gs := fun e => hn (by rw [lf, lg, e])
    have HN := Lib.hid hne
    clear hn hL hM lf lg hA hB hne
    go_enter Tryd.func32, Tryd.ntmps32
    go_wp2_with fail
    go_ret
    exact ⟨_, rfl, by simp [HN.out], Below.refl _ _⟩
set_option maxRecDepth 100000 in
set_option maxHeartbeats 2000000 in
theorem psame_any (v1 v2 : PrV) (p q : PrM) (w : World) (h1 : ReadP w v1 p) (h2 : ReadP w v2 q) (s1 : SmallP p) (s2 : SmallP q) :
    Calls Tryd.prog 11 #[aggP v1, aggP v2] w (SameEnd p q w) := by
  obtain ⟨u, ⟨ga, gn, gc⟩, m, ⟨fa, fn, fc⟩⟩ := v1
  obtain ⟨u', ⟨ga', gn', gc'⟩, m', ⟨fa', fn', fc'⟩⟩ := v2
  obtain ⟨pu, pg, pm, pf⟩ := p
  obtain ⟨qu, qg, qm, qf⟩ := q
  obtain ⟨hu, hg, hm, hf⟩ := h1
  obtain ⟨hu', hg', hm', hf'⟩ := h2
  obtain ⟨sg, sf, sa⟩ := s1
  obtain ⟨sg', sf', sa'⟩ := s2
  simp only at hu hm hu' hm' sg sf sa sg' sf' sa'
  subst hu; subst hu'; subst hm; subst hm'
  have HG := Lib.hid (show ReadI w (.slice ga gn gc) pg from hg)
  have HG' := Lib.hid (show ReadI w (.slice ga' gn' gc') qg from hg')
  have HF := Lib.hid (show ReadFs w (.slice fa fn fc) pf from hf)
  have HF' := Lib.hid (show ReadFs w (.slice fa' fn' fc') qf from hf')
  have HS := Lib.hid (And.intro (And.intro sg sg') (And.intro sf sf'))
  have HSA := Lib.hid sa
  have HSA' := Lib.hid sa'
  clear hg hg' hf hf' sg sg' sf sf' sa sa'
  unfold aggP Sl.v
  simp only
  have HB0 := Lib.hid (b_alloc (b_alloc (Below.refl w.heap.size w) (.cells #[.bool u, .slice ga gn gc, .int .i64 m, .slice fa fn fc] 33)) (.cells #[.bool u', .slice ga' gn' gc', .int .i64 m', .slice fa' fn' fc'] 33))
  by_cases huu : u = u'
  · have tu : (u == u') = true := by rw [huu]; simp
    have HU := Lib.hid huu
    clear huu
    go_enter Tryd.func11, Tryd.ntmps11
    go_wp2_with fail
    refine (eqI_same _ _ pg qg _ (readI_below HG.out HB0.out) (readI_below HG'.out HB0.out) (by have := HS.out; omega) (by have := HS.out; omega)).mono ?_
    rintro e w1 ⟨t1, rfl, ht1, hb1⟩
    have T1 := Lib.hid ht1
    have HB1 := Lib.hid (b_call HB0.out hb1)
    obtain ⟨hc1, hf1⟩ := bcell hb1
    have hz1 := hb1.size
    simp only [World.size_alloc] at hz1
    have z0 : w.heap.size < w1.heap.size := by omega
    have z1 : w.heap.size + 1 < w1.heap.size := by omega
    clear ht1 hb1 hz1
    cases t1
    · go_wp2_with fail
      go_ret
      exact ⟨_, rfl, by have := T1.out; simp at this; simp [this], HB1.out⟩
    by_cases hmm : m = m'
    · have tm : (m == m') = true := by rw [hmm]; simp
      have HM := Lib.hid hmm
      clear hmm
      go_wp2_with fail
      refine (eqF_any _ _ pf qf _ (readFs_below HF.out HB1.out) (readFs_below HF'.out HB1.out) HSA.out HSA'.out (by have := HS.out; omega) (by have := HS.out; omega)).mono ?_
      rintro e w2 ⟨t2, rfl, ht2, hb2⟩
      have T2 := Lib.hid ht2
      have HB2 := Lib.hid (b_call HB1.out hb2)
      clear ht2 hb2
      cases t2
      · go_wp2_with fail
        go_ret
        exact ⟨_, rfl, by have := T2.out; simp at this; simp [this], HB2.out⟩
      · go_wp2_with fail
        go_ret
        exact ⟨_, rfl, by have a := T1.out; have b := T2.out; simp at a b; simp [a, b, HM.out, HU.out], HB2.out⟩
    · have tm : (m == m') = false := by simpa using hmm
      have HM := Lib.hid hmm
      clear hmm
      go_wp2_with fail
      go_ret
      exact ⟨_, rfl, by have := HM.out; simp [this], HB1.out⟩
  · have tu : (u == u') = false := by simpa using huu
    have HU := Lib.hid huu
    clear huu
    go_enter Tryd.func11, Tryd.ntmps11
    go_wp2_with fail
    go_ret
    exact ⟨_, rfl, by have := HU.out; simp [this], HB0.out⟩
end
end Go.Proofs.YtedmjlhgpdeafaaDoor
