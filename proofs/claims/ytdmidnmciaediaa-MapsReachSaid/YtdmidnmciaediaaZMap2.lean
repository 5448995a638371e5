/- Layer 27: the contracts of the places of references, of Same, of Of. Conditions: what is asked reads as lists. -/
import Derived.Test.YtdmidnmciaediaaZMap1
import Derived.Deep.RegionLawGrows
import Derived.BigQuiet
namespace Go.Proofs.Ytdmidnmciaediaa
open Go.RowKit
set_option linter.unusedVariables false
set_option linter.unusedSimpArgs false
attribute [local go_sem] over_cell over_frozen
set_option maxHeartbeats 1000000 in
theorem eqJ_any (u v : Value) (xs ys : List Int) (w : World) (h : ReadI w u xs) (h' : ReadI w v ys) (hl : xs.length ≤ 4611686018427387904) (hl' : ys.length ≤ 4611686018427387904) :
    Calls Try.prog 90 #[u, v] w fun e w' => e = .returned (.bool (decide (xs = ys))) ∧ Below w.heap.size w w' := by
  by_cases hn : xs.length = ys.length
  · by_cases h0 : 0 < xs.length
    · obtain ⟨b, o, cap, rfl, h1, h2, h3, h4⟩ := readI_pos h h0
      obtain ⟨b', o', cap', rfl, g1, g2, g3, g4⟩ := readI_pos h' (by omega)
      have t0 : ((xs.length : Int) != (ys.length : Int)) = false := by rw [hn]; simp
      have HN := Lib.hid hn
      have hn1 : xs.length ≤ ys.length := by omega
      have H4 := Lib.hid h4
      have G4 := Lib.hid g4
      clear h h' hn h4 g4
      go_enter Try.func90, Try.ntmps90
      go_wp2
      go_loopw [13] (fun i wr => ∃ k : Nat, k ≤ xs.length ∧ i = .int .i64 k ∧ Hid (∀ j, j < k → xs.getD j 0 = ys.getD j 0) ∧ Below w.heap.size w wr) (fun i _ => xs.length - (intOf i).toNat)
      case atStart => exact ⟨0, Nat.zero_le _, rfl, fun j hj => by omega, Below.refl _ _⟩
      case round =>
        obtain ⟨k, hk, rfl, hi, hb⟩ := hrel
        by_cases hlt : k < xs.length
        · have hc : wr.cell? ⟨b, o + k, none⟩ = some (.int .i64 (xs.getD k 0)) := (hb.cell (p := ⟨b, o + k, none⟩) h3).trans (H4.out k hlt)
          have hd : wr.cell? ⟨b', o' + k, none⟩ = some (.int .i64 (ys.getD k 0)) := (hb.cell (p := ⟨b', o' + k, none⟩) g3).trans (G4.out k (by omega))
          have k1 : (k : Int) < xs.length := by omega
          have k2 : (k : Int) < ys.length := by omega
          have k0 : (0 : Int) ≤ k := by omega
          obtain ⟨x, hx⟩ : ∃ x, x = xs.getD k 0 := ⟨_, rfl⟩
          obtain ⟨y, hy⟩ : ∃ y, y = ys.getD k 0 := ⟨_, rfl⟩
          rw [← hx] at hc; rw [← hy] at hd
          have HX := Lib.hid hx; have HY := Lib.hid hy; clear hx hy
          by_cases hxy : x = y
          · have t : (x != y) = false := by rw [hxy]; simp
            have E := Lib.hid hxy; clear hxy
            go_wp2_with fail
            go_quiet (fail)
            go_wp2
            go_roundw
            case rel =>
              refine ⟨k + 1, by omega, rfl, fun j hj => ?_, b_drewN hb _⟩
              rcases Nat.lt_or_ge j k with q | q
              · exact hi.out j q
              · have e : j = k := by omega
                rw [e, ← HX.out, ← HY.out, E.out]
            case measure => simp [intOf]; omega
          · have t : (x != y) = true := by rw [bne_iff_ne]; exact hxy
            have E := Lib.hid hxy; clear hxy
            go_wp2_with fail
            go_quiet (fail)
            go_wp2
            go_ret
            refine ⟨?_, b_drewN hb _⟩
            have hne : xs ≠ ys := fun h => E.out (by rw [HX.out, HY.out, h])
            rw [decide_eq_false hne]; rfl
        · go_wp2
          go_ret
          have he : xs = ys := eq_take HN.out (fun j hj => hi.out j (by omega))
          exact ⟨by rw [decide_eq_true he]; rfl, hb⟩
    · obtain ⟨a, cap, rfl⟩ := readI_len h
      obtain ⟨a', cap', rfl⟩ := readI_len h'
      have hx : xs = [] := List.eq_nil_of_length_eq_zero (by omega)
      have hy : ys = [] := List.eq_nil_of_length_eq_zero (by omega)
      subst hx; subst hy
      clear h h' hn h0
      go_enter Try.func90, Try.ntmps90
      go_wp2
      go_loopw [13] (fun i wr => i = .int .i64 0 ∧ Below w.heap.size w wr) (fun _ _ => 0)
      case atStart => exact ⟨rfl, Below.refl _ _⟩
      case round =>
        obtain ⟨rfl, hb⟩ := hrel
        go_wp2
        go_ret
        exact ⟨rfl, hb⟩
  · obtain ⟨a, cap, rfl⟩ := readI_len h
    obtain ⟨a', cap', rfl⟩ := readI_len h'
    have t0 : ((xs.length : Int) != (ys.length : Int)) = true := by rw [bne_iff_ne]; omega
    have hne : xs ≠ ys := fun e => hn (by rw [e])
    have HN := Lib.hid hne
    clear h h' hn hne
    go_enter Try.func90, Try.ntmps90
    go_wp2
    go_ret
    exact ⟨by rw [decide_eq_false HN.out]; rfl, Below.refl _ _⟩
set_option maxHeartbeats 1000000 in
theorem rsameJ_any (u v : Value) (xs ys : List Int) (w : World) (h : ReadI w u xs) (h' : ReadI w v ys) (hl : xs.length ≤ 4611686018427387904) (hl' : ys.length ≤ 4611686018427387904) :
    Calls Try.prog 29 #[u, v] w fun e w' => e = .returned (.bool (decide (xs = ys))) ∧ Below w.heap.size w w' := by
  by_cases hn : xs.length = ys.length
  · by_cases h0 : 0 < xs.length
    · obtain ⟨b, o, cap, rfl, h1, h2, h3, h4⟩ := readI_pos h h0
      obtain ⟨b', o', cap', rfl, g1, g2, g3, g4⟩ := readI_pos h' (by omega)
      have t0 : ((xs.length : Int) != (ys.length : Int)) = false := by rw [hn]; simp
      have HN := Lib.hid hn
      have hn1 : xs.length ≤ ys.length := by omega
      have H4 := Lib.hid h4
      have G4 := Lib.hid g4
      clear h h' hn h4 g4
      go_enter Try.func29, Try.ntmps29
      go_wp2
      go_loopw [13] (fun i wr => ∃ k : Nat, k ≤ xs.length ∧ i = .int .i64 k ∧ Hid (∀ j, j < k → xs.getD j 0 = ys.getD j 0) ∧ Below w.heap.size w wr) (fun i _ => xs.length - (intOf i).toNat)
      case atStart => exact ⟨0, Nat.zero_le _, rfl, fun j hj => by omega, Below.refl _ _⟩
      case round =>
        obtain ⟨k, hk, rfl, hi, hb⟩ := hrel
        by_cases hlt : k < xs.length
        · have hc : wr.cell? ⟨b, o + k, none⟩ = some (.int .i64 (xs.getD k 0)) := (hb.cell (p := ⟨b, o + k, none⟩) h3).trans (H4.out k hlt)
          have hd : wr.cell? ⟨b', o' + k, none⟩ = some (.int .i64 (ys.getD k 0)) := (hb.cell (p := ⟨b', o' + k, none⟩) g3).trans (G4.out k (by omega))
          have k1 : (k : Int) < xs.length := by omega
          have k2 : (k : Int) < ys.length := by omega
          have k0 : (0 : Int) ≤ k := by omega
          obtain ⟨x, hx⟩ : ∃ x, x = xs.getD k 0 := ⟨_, rfl⟩
          obtain ⟨y, hy⟩ : ∃ y, y = ys.getD k 0 := ⟨_, rfl⟩
          rw [← hx] at hc; rw [← hy] at hd
          have HX := Lib.hid hx; have HY := Lib.hid hy; clear hx hy
          by_cases hxy : x = y
          · have t : (x != y) = false := by rw [hxy]; simp
            have E := Lib.hid hxy; clear hxy
            go_wp2_with fail
            go_quiet (fail)
            go_wp2
            go_roundw
            case rel =>
              refine ⟨k + 1, by omega, rfl, fun j hj => ?_, b_drewN hb _⟩
              rcases Nat.lt_or_ge j k with q | q
              · exact hi.out j q
              · have e : j = k := by omega
                rw [e, ← HX.out, ← HY.out, E.out]
            case measure => simp [intOf]; omega
          · have t : (x != y) = true := by rw [bne_iff_ne]; exact hxy
            have E := Lib.hid hxy; clear hxy
            go_wp2_with fail
            go_quiet (fail)
            go_wp2
            go_ret
            refine ⟨?_, b_drewN hb _⟩
            have hne : xs ≠ ys := fun h => E.out (by rw [HX.out, HY.out, h])
            rw [decide_eq_false hne]; rfl
        · go_wp2
          go_ret
          have he : xs = ys := eq_take HN.out (fun j hj => hi.out j (by omega))
          exact ⟨by rw [decide_eq_true he]; rfl, hb⟩
    · obtain ⟨a, cap, rfl⟩ := readI_len h
      obtain ⟨a', cap', rfl⟩ := readI_len h'
      have hx : xs = [] := List.eq_nil_of_length_eq_zero (by omega)
      have hy : ys = [] := List.eq_nil_of_length_eq_zero (by omega)
      subst hx; subst hy
      clear h h' hn h0
      go_enter Try.func29, Try.ntmps29
      go_wp2
      go_loopw [13] (fun i wr => i = .int .i64 0 ∧ Below w.heap.size w wr) (fun _ _ => 0)
      case atStart => exact ⟨rfl, Below.refl _ _⟩
      case round =>
        obtain ⟨rfl, hb⟩ := hrel
        go_wp2
        go_ret
        exact ⟨rfl, hb⟩
  · obtain ⟨a, cap, rfl⟩ := readI_len h
    obtain ⟨a', cap', rfl⟩ := readI_len h'
    have t0 : ((xs.length : Int) != (ys.length : Int)) = true := by rw [bne_iff_ne]; omega
    have hne : xs ≠ ys := fun e => hn (by rw [e])
    have HN := Lib.hid hne
    clear h h' hn hne
    go_enter Try.func29, Try.ntmps29
    go_wp2
    go_ret
    exact ⟨by rw [decide_eq_false HN.out]; rfl, Below.refl _ _⟩
def refsF : List Int → Nat → List Int
  | [], _ => []
  | k :: l, i => if k = 2 then (i : Int) :: refsF l (i + 1) else refsF l (i + 1)
def refsL (l : List Int) : List Int := refsF l 0
theorem refsF_app : ∀ (a b : List Int) (i : Nat), refsF (a ++ b) i = refsF a i ++ refsF b (i + a.length)
  | [], b, i => by simp [refsF]
  | k :: a, b, i => by
    have e := refsF_app a b (i + 1)
    have e2 : i + 1 + a.length = i + (a.length + 1) := by omega
    simp only [List.cons_append, refsF, List.length_cons]
    split <;> simp [e, e2]
theorem refsF_len : ∀ (l : List Int) (i : Nat), (refsF l i).length ≤ l.length
  | [], _ => Nat.le_refl _
  | k :: l, i => by
    have := refsF_len l (i + 1)
    simp only [refsF, List.length_cons]
    split <;> simp <;> omega
theorem refs_take {l : List Int} {k : Nat} (hk : k < l.length) : refsL (l.take (k + 1)) = refsL (l.take k) ++ (if l[k] = 2 then [(k : Int)] else []) := by
  unfold refsL
  rw [List.take_succ_eq_append_getElem hk, refsF_app]
  congr 1
  rw [List.length_take, Nat.min_eq_left (by omega), Nat.zero_add]
  simp only [refsF]
/-- A row that the call itself laid. -/
def RetJ (w : World) (xs : List Int) (e : Ending) (w' : World) : Prop := ∃ a c, e = .returned (.slice a xs.length c) ∧ ReadI w' (.slice a xs.length c) xs ∧ (∀ k, (Value.slice a xs.length c).ownBlock = some k → w.heap.size ≤ k ∧ k < w'.heap.size) ∧ Below w.heap.size w w'
set_option maxHeartbeats 1000000 in
theorem mrefs_own (u : Value) (xs : List Int) (w : World) (h : ReadI w u xs) (hl : xs.length ≤ 17592186044415) : Calls Try.prog 88 #[u] w (RetJ w (refsL xs)) := by
  obtain ⟨a, cap, rfl⟩ := readI_len h
  have H := Lib.hid h
  have hl1 : (xs.length : Int) ≤ 17592186044415 := by omega
  have HLL := Lib.hid hl
  clear h hl
  go_enter Try.func88, Try.ntmps88
  go_wp2_with fail
  go_loopw [3, 8] (fun v i wr => ∃ k : Nat, k ≤ xs.length ∧ i = .int .i64 k ∧ (∃ (a : Option Addr) (n c : Nat) (LL : List Int), v = .slice a n c ∧ n = LL.length ∧ Hid (LL = refsL (xs.take k)) ∧ Hid (OwnR intE 3 wr w.heap.size (.slice a LL.length c) LL)) ∧ Hid (Below w.heap.size w wr)) (fun _ i _ => xs.length - (intOf i).toNat)
  case atStart => exact ⟨0, Nat.zero_le _, rfl, ⟨none, 0, 0, [], rfl, rfl, Lib.hid rfl, Lib.hid (ownR_nil _ _)⟩, Lib.hid (Below.refl _ _)⟩
  case round =>
    obtain ⟨k, hk, rfl, ⟨a', n', c', LL, rfl, rfl, HEQ, HOW⟩, HB⟩ := hrel
    have k0 : (0 : Int) ≤ k := by omega
    by_cases hlt : k < xs.length
    · have k1 : (k : Int) < xs.length := by omega
      obtain ⟨bl, off, cp, e1, r1, r2, hbl, r4⟩ := readI_pos (readI_below H.out HB.out) (by omega)
      injection e1 with e1 _ e3
      subst e1
      have hcx := r4 k hlt
      rw [List.getD_eq_getElem?_getD, List.getElem?_eq_getElem hlt, Option.getD_some] at hcx
      have HT := Lib.hid (refs_take hlt)
      have hLL : LL.length ≤ 17592186044414 := by
        rw [HEQ.out]
        have q := refsF_len (xs.take k) 0
        rw [List.length_take] at q
        have := HLL.out
        show (refsF (xs.take k) 0).length ≤ _
        omega
      generalize xs[k] = x at *
      have hbs := HB.out.size
      clear r4 r1 r2 e3
      by_cases hx : x = 2
      · rw [if_pos hx] at HT
        subst hx
        go_wp2_with (at_builtin; refine append1 (c := intE) rowInt (by rfl) _ _ (by rfl) (by rfl) (v := .slice a' LL.length c') (L := LL) (B := w.heap.size) (ownR_alloc HOW.out _) (k : Int) _ 1 (by rfl) (blk_new9 rfl) ?c1 ?c2 ?c3 ?_; (case c1 => (omega)); (case c2 => (unfold maxLen; omega)); (case c3 => (simp; omega)); intro g9 cap9 w9 ho9 hg9 hor9 hl9; have HO9 := Lib.hid ho9; have HG9 := Lib.hid hg9; clear ho9 hg9 hor9 hl9)
        go_roundw
        case rel =>
          refine ⟨k + 1, by omega, by first | rfl | go_num, ⟨some ⟨g9, 0, none⟩, LL.length + 1, cap9, LL ++ [(k : Int)], rfl, by simp, Lib.hid (by rw [HT.out, HEQ.out]), Lib.hid (by rw [List.length_append]; exact HO9.out)⟩, Lib.hid (b_ownR (b_alloc HB.out _) (ownR_alloc HOW.out _) HG9.out)⟩
        case measure => simp [intOf]; omega
      · rw [if_neg hx, List.append_nil] at HT
        have hxb : (x == 2) = false := beq_false_of_ne hx
        clear hx
        go_wp2_with fail
        go_roundw
        case rel => exact ⟨k + 1, by omega, by first | rfl | go_num, ⟨a', LL.length, c', LL, rfl, rfl, Lib.hid (by rw [HT.out, HEQ.out]), HOW⟩, HB⟩
        case measure => simp [intOf]; omega
    · have k1 : ¬ ((k : Int) < xs.length) := by omega
      have HF : Hid (LL = refsL xs) := Lib.hid (by rw [HEQ.out, List.take_of_length_le (by omega)])
      go_wp2_with fail
      go_ret
      rw [← HF.out]
      exact ⟨a', c', rfl, readR_I (ownR_read HOW.out), ownR_lt HOW.out, HB.out⟩
def bothB (xs xs' ys ys' : List Int) : Bool := decide (xs = xs') && decide (ys = ys')
set_option maxHeartbeats 1000000 in
theorem msame_any (s1 s2 t1 t2 : Sl) (xs ys xs' ys' : List Int) (w : World) (h1 : ReadI w s1.v xs) (h2 : ReadI w s2.v ys) (g1 : ReadI w t1.v xs') (g2 : ReadI w t2.v ys') (l1 : xs.length ≤ 4611686018427387904) (l2 : ys.length ≤ 4611686018427387904) (m1 : xs'.length ≤ 4611686018427387904) (m2 : ys'.length ≤ 4611686018427387904) :
    Calls Try.prog 55 #[.agg #[.slice s1.a s1.n s1.c, .slice s2.a s2.n s2.c], .agg #[.slice t1.a t1.n t1.c, .slice t2.a t2.n t2.c]] w fun e w' => e = .returned (.bool (bothB xs xs' ys ys')) ∧ Below w.heap.size w w' := by
  have E1 := Lib.hid (fun w' (hb : Below w.heap.size w w') => eqJ_any s1.v t1.v xs xs' w' (readI_below h1 hb) (readI_below g1 hb) l1 m1)
  have E2 := Lib.hid (fun w' (hb : Below w.heap.size w w') => eqJ_any s2.v t2.v ys ys' w' (readI_below h2 hb) (readI_below g2 hb) l2 m2)
  unfold bothB
  generalize decide (xs = xs') = p at *
  generalize decide (ys = ys') = q at *
  obtain ⟨sa, sn, sc⟩ := s1; obtain ⟨ta, tn, tc⟩ := s2; obtain ⟨ua, un, uc⟩ := t1; obtain ⟨va, vn, vc⟩ := t2
  clear h1 h2 g1 g2 l1 l2 m1 m2
  unfold Sl.v at *
  simp only at *
  have HB0 : Hid (∀ W, W = (w.alloc (.cells #[.slice sa sn sc, .slice ta tn tc] 110)).alloc (.cells #[.slice ua un uc, .slice va vn vc] 110) → Blk W w.heap.size [.slice sa sn sc, .slice ta tn tc] ∧ Blk W (w.heap.size + 1) [.slice ua un uc, .slice va vn vc] ∧ Below w.heap.size w W) := Lib.hid (fun W e => by subst e; exact boxes2 w #[.slice sa sn sc, .slice ta tn tc] #[.slice ua un uc, .slice va vn vc] 110 110)
  go_enter Try.func55, Try.ntmps55
  go_upto_region 1 with fail
  refine wp_named ?_
  intro W hW
  obtain ⟨q1, q2, q3⟩ := HB0.out W hW
  obtain ⟨y0, y1, _⟩ := blk2 q1
  obtain ⟨z0, z1, _⟩ := blk2 q2
  have Q1 := Lib.hid q1; have Q2 := Lib.hid q2; have Q3 := Lib.hid q3
  have sz0 := q1.1
  have sz1 := q2.1
  clear hW q1 q2 q3 HB0
  go_wp2_with fail
  refine (E1.out W Q3.out).mono ?_
  rintro e w1 ⟨rfl, hb1⟩
  have HB1 := Lib.hid hb1
  obtain ⟨y0', y1', _⟩ := blk2 (blk_below Q1.out hb1)
  obtain ⟨z0', z1', _⟩ := blk2 (blk_below Q2.out hb1)
  have sz0' := (blk_below Q1.out hb1).1
  have sz1' := (blk_below Q2.out hb1).1
  clear y0 y1 z0 z1 sz0 sz1 hb1
  cases p
  · go_wp2_with fail
    go_ret
    exact ⟨rfl, b_call Q3.out HB1.out⟩
  · go_wp2_with fail
    refine (E2.out w1 (b_call Q3.out HB1.out)).mono ?_
    rintro e w2 ⟨rfl, hb2⟩
    go_wp2_with fail
    go_ret
    exact ⟨by cases q <;> rfl, b_call Q3.out (b_call HB1.out hb2)⟩
end Go.Proofs.Ytdmidnmciaediaa
