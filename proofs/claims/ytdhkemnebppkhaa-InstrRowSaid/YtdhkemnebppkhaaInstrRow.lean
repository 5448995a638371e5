/- InstrRow, walked: whatever the row of instructions, the answer is true. Conditions: the row reads as a list; its 'x' are of their kind. -/
import Derived.Test.YtdhkemnebppkhaaInsts
namespace Go.Proofs.Ytdhkemnebppkhaa
open Go.RowKit
set_option linter.unusedVariables false
set_option linter.unusedSimpArgs false
attribute [local go_sem] over_cell over_frozen
def mayI (i : Ins) : Bool := mayB i.op i.x i.a i.b
def bytI (i : Ins) : List Int := bytesI i.op i.x i.a i.b
def bytesN (L : List Ins) : List Int := L.flatMap bytI
def keptAt (L : List Ins) (k : Nat) : List Ins := (L.take (min k 12)).filter mayI
def GoodL (L : List Ins) : Prop := ∀ i ∈ L, 0 ≤ i.x ∧ i.x < 18446744073709551616
theorem bytI_le (i : Ins) : (bytI i).length ≤ 13 := by
  unfold bytI; rw [bytesI_sz]; unfold szR
  rcases kinds i.op with ⟨_, k2, k3⟩ | ⟨_, k2, k3⟩ | ⟨_, k2, k3⟩ | ⟨_, k2, k3⟩ | ⟨_, k2, k3⟩ <;> rw [k2, k3] <;> decide
theorem bytesN_le : ∀ L : List Ins, (bytesN L).length ≤ 13 * L.length
  | [] => Nat.le_refl _
  | i :: l => by
    show (bytI i ++ bytesN l).length ≤ 13 * (l.length + 1)
    have := bytesN_le l
    have := bytI_le i
    rw [List.length_append]
    omega
theorem isBytes_N : ∀ L : List Ins, IsBytes (bytesN L)
  | [] => isBytes_nil
  | i :: l => isBytes_append (isBytes_bytesI _ _ _ _) (isBytes_N l)
theorem bytesN_snoc (L : List Ins) (i : Ins) : bytesN (L ++ [i]) = bytesN L ++ bytI i := by
  unfold bytesN; rw [List.flatMap_append]; simp
theorem kept_le (L : List Ins) (k : Nat) : (keptAt L k).length ≤ 12 := by
  unfold keptAt
  exact Nat.le_trans (List.length_filter_le _ _) (by rw [List.length_take]; omega)
theorem kept_zero (L : List Ins) : keptAt L 0 = [] := rfl
theorem kept_yes {L : List Ins} {k : Nat} (h : k < L.length) (h12 : k < 12) (hm : mayI L[k] = true) : keptAt L (k + 1) = keptAt L k ++ [L[k]] := by
  unfold keptAt
  rw [show min (k + 1) 12 = k + 1 by omega, show min k 12 = k by omega, List.take_add_one, List.filter_append, List.getElem?_eq_getElem h]
  simp [hm]
theorem kept_no {L : List Ins} {k : Nat} (h : k < L.length) (h12 : ¬ k < 12 ∨ mayI L[k] = false) : keptAt L (k + 1) = keptAt L k := by
  unfold keptAt
  rcases Nat.lt_or_ge k 12 with q | q
  · rcases h12 with z | z
    · exact absurd q z
    · rw [show min (k + 1) 12 = k + 1 by omega, show min k 12 = k by omega, List.take_add_one, List.filter_append, List.getElem?_eq_getElem h]
      simp [z]
  · rw [show min (k + 1) 12 = 12 by omega, show min k 12 = 12 by omega]
theorem kept_good {L : List Ins} (h : GoodL L) (k : Nat) : ∀ i ∈ keptAt L k, (0 ≤ i.x ∧ i.x < 18446744073709551616) ∧ mayI i = true := fun i hi => by
  unfold keptAt at hi
  obtain ⟨h1, h2⟩ := List.mem_filter.1 hi
  exact ⟨h i (List.mem_of_mem_take h1), h2⟩
theorem apart_symm {a b : Option Nat} (h : a = none ∨ a ≠ b) : b = none ∨ b ≠ a := by
  cases b with
  | none => exact Or.inl rfl
  | some k => exact Or.inr (by rcases h with rfl | h; exact (by intro e; cases e); exact (Ne.symm h))
theorem readB_from {w : World} {b o cap n : Nat} {xs : List Int} (h : ReadB w (.slice (some ⟨b, o, none⟩) xs.length cap) xs) (hn : n ≤ xs.length) : ReadB w (.slice (if cap = n then some ⟨b, o, none⟩ else some ⟨b, o + n, none⟩) (xs.length - n) (cap - n)) (xs.drop n) := by
  have h' := h
  obtain ⟨a, c, e, r1, r2, _⟩ := h'
  injection e with e1 e2 e3
  subst e3
  rcases Nat.lt_or_ge n xs.length with q | q
  · rw [if_neg (by omega)]
    have z := readB_cut h n xs.length q (Nat.le_refl _)
    rwa [List.take_of_length_le (by rw [List.length_drop]; exact Nat.le_refl _)] at z
  · have e : xs.length - n = 0 := by omega
    rw [List.drop_of_length_le q, e]
    exact ⟨_, _, rfl, Nat.zero_le _, by omega, fun hz => by (split at hz <;> cases hz), fun hp => absurd hp (Nat.lt_irrefl 0)⟩
def kRel (L : List Ins) (W wr : World) (vb vw i : Value) : Prop := ∃ k : Nat, k ≤ L.length ∧ i = .int .i64 k ∧ OwnB wr W.heap.size vb (bytesN (keptAt L k)) ∧ OwnN wr W.heap.size vw (keptAt L k) ∧ Below W.heap.size W wr
set_option maxHeartbeats 4000000 in
theorem instrRow_any (u : Value) (L : List Ins) (w : World) (h : ReadN w u L) (hg : GoodL L) : Calls Try.prog 6 #[u] w fun e w' => e = .returned (.bool true) ∧ Below w.heap.size w w' := by
  obtain ⟨a, cap, rfl, h1, h2, h3⟩ := h
  have HG := Lib.hid hg; have H3 := Lib.hid h3
  clear hg h3
  go_enter Try.func6, Try.ntmps6
  go_wp2_with fail
  go_loopw [3, 4, 16] (fun vb vw i wr => kRel L w wr vb vw i) (fun _ _ i _ => L.length - (intOf i).toNat)
  case atStart => exact ⟨0, Nat.zero_le _, rfl, ownB_nil _ _, ownN_nil _ _, Below.refl _ _⟩
  case round =>
    obtain ⟨k, hk, rfl, ownb, ownn, hbw⟩ := hrel
    by_cases hkn : k < L.length
    · have k1 : (k : Int) < L.length := by omega
      have kmax : (k : Int) < 9223372036854775807 := by unfold maxLen at h2; omega
      have k0 : (0 : Int) ≤ k := by omega
      obtain ⟨g, o, rfl, hgl, hcell⟩ := H3.out (by omega)
      obtain ⟨i, hi⟩ : ∃ i, i = L[k] := ⟨_, rfl⟩
      have hc : ∀ j, j < 4 → wr.cell? ⟨g, o + (k * 4 + j), none⟩ = (cellsI i)[j]? := fun j hj => by rw [(bcell hbw).1 _ _ hgl, hi]; exact hcell k hkn j hj
      have hc0 : wr.cell? ⟨g, o + k * 4, none⟩ = some (.int .i64 i.op) := hc 0 (by omega)
      have hc1 : wr.cell? ⟨g, o + k * 4 + 1, none⟩ = some (.int .u64 i.x) := by rw [Nat.add_assoc]; exact hc 1 (by omega)
      have hc2 : wr.cell? ⟨g, o + k * 4 + 2, none⟩ = some (.int .i64 i.a) := by rw [Nat.add_assoc]; exact hc 2 (by omega)
      have hc3 : wr.cell? ⟨g, o + k * 4 + 3, none⟩ = some (.int .i64 i.b) := by rw [Nat.add_assoc]; exact hc 3 (by omega)
      obtain ⟨gx, gx2⟩ := HG.out i (by rw [hi]; exact List.getElem_mem hkn)
      have HI := Lib.hid hi; have HC := Lib.hid hcell; have HGL := Lib.hid hgl
      clear hi hcell hc hgl
      go_wp2_with fail
      refine (ours_any _ _ _ _ _).mono ?_
      rintro e w1 ⟨rfl, hb1⟩
      obtain ⟨b0, b1, b2, b3, bf⟩ := blk4 (blk_born hb1)
      have hB1 := b_call (b_alloc hbw (.cells #[.int .i64 i.op, .int .u64 i.x, .int .i64 i.a, .int .i64 i.b] 24)) hb1
      have ownb1 := ownB_below (ownB_alloc ownb (.cells #[.int .i64 i.op, .int .u64 i.x, .int .i64 i.a, .int .i64 i.b] 24)) hb1
      have ownn1 := ownN_below (ownN_alloc ownn (.cells #[.int .i64 i.op, .int .u64 i.x, .int .i64 i.a, .int .i64 i.b] 24)) hb1
      go_wp2_with fail
      rcases Bool.eq_false_or_eq_true (mayB i.op i.x i.a i.b) with hm | hm
      rotate_left
      ·
        refine (ibytes_none _ _ _ _ _ hm).mono ?_
        rintro e w2 ⟨v2, rfl, own2, hb2⟩
        have hk12 : keptAt L (k + 1) = keptAt L k := kept_no hkn (Or.inr (by rw [← HI.out]; exact hm))
        have ownb2 := ownB_below ownb1 hb2
        have ownn2 := ownN_below ownn1 hb2
        have hB2 := b_call hB1 hb2
        rw [← hk12] at ownb2 ownn2
        have HK := Lib.hid hk12; have HM := Lib.hid hm; have P1 := Lib.hid hk
        clear hk12 hm hk own2
        rcases (show (k : Int) < 12 ∨ ¬ (k : Int) < 12 by omega) with q | q
        · go_wp2_with fail
          exact ⟨⟨k + 1, by omega, by rw [Int.natCast_succ], ownb2, ownn2, hB2⟩, by simp only [intOf]; omega⟩
        · have t12 : decide ((k : Int) < 12) = false := decide_eq_false q
          clear q
          go_wp2_with fail
          exact ⟨⟨k + 1, by omega, by rw [Int.natCast_succ], ownb2, ownn2, hB2⟩, by simp only [intOf]; omega⟩
      ·
        refine (ibytes_some _ _ _ _ _ hm gx gx2).mono ?_
        rintro e w2 ⟨v2, rfl, own2, hb2⟩
        have ownb2 := ownB_below ownb1 hb2
        have ownn2 := ownN_below ownn1 hb2
        have hB2 := b_call hB1 hb2
        have hb12 := b_call hb1 hb2
        have lt2 := ownB_lt ownb
        clear b0 b1 b2 b3 bf
        have BK := blk_born hb12
        have hne : some wr.heap.size ≠ u3.ownBlock := by
          intro e
          have := (lt2 _ e.symm).2
          omega
        have HM := Lib.hid hm; have P1 := Lib.hid hk
        clear hm hk
        rcases (show (k : Int) < 12 ∨ ¬ (k : Int) < 12 by omega) with q | q
        · have hk12 : keptAt L (k + 1) = keptAt L k ++ [i] := by rw [HI.out]; exact kept_yes hkn (by omega) (by rw [← HI.out]; exact HM.out)
          go_upto_region 9 with (at_builtin; (refine appendB rfl _ _ rfl w.heap.size _ _ rfl ownb2 _ (bytI i) rfl (ownB_read own2) ?c1 ?c2 ?_); (case c1 => (have := bytesN_le (keptAt L k); have := kept_le L k; have := bytI_le i; omega)); (case c2 => exact hB2.size); (intro v3 w3 own3 hg3))
          have ownn3 := ownN_kept ownn2 hg3 (own_apart ownb2 ownn2)
          have hB3 := b_ownB hB2 ownb2 hg3
          obtain ⟨b0, b1, b2, b3, bf⟩ := blk4 (blk_grown BK hg3 hne)
          have ap := apart_symm (own_apart own3 ownn3)
          clear hg3
          go_wp2_with (at_builtin; (refine appendN rfl _ _ rfl w.heap.size _ _ rfl (ownN_alloc ownn3 _) w3.heap.size i rfl (fun j hj => by rw [World.cell?_alloc_new]; simp [cellsI]) ?c1 ?c2 ?_); (case c1 => (have := kept_le L k; omega)); (case c2 => (rw [World.size_alloc]; have := hB3.size; omega)); (intro v4 w4 own4 hg4))
          have own3b := ownB_kept (ownB_alloc own3 _) hg4 ap
          have hB4 := b_ownN (b_alloc hB3 _) (ownN_alloc ownn3 _) hg4
          exact ⟨⟨k + 1, by omega, by rw [Int.natCast_succ], by rw [hk12, bytesN_snoc]; exact own3b, by rw [hk12]; exact own4, hB4⟩, by simp only [intOf]; omega⟩
        · have hk12 : keptAt L (k + 1) = keptAt L k := kept_no hkn (Or.inl (by omega))
          rw [← hk12] at ownb2 ownn2
          have t12 : decide ((k : Int) < 12) = false := decide_eq_false q
          clear q
          have HK := Lib.hid hk12; clear hk12
          go_wp2_with fail
          exact ⟨⟨k + 1, by omega, by rw [Int.natCast_succ], ownb2, ownn2, hB2⟩, by simp only [intOf]; omega⟩
    · obtain rfl : k = L.length := by omega
      have t1 : decide ((L.length : Int) < L.length) = false := by rw [decide_eq_false_iff_not]; omega
      have hgood := kept_good HG.out L.length
      have hKl := kept_le L L.length
      obtain ⟨K, hK⟩ : ∃ K, K = keptAt L L.length := ⟨_, rfl⟩
      rw [← hK] at ownb ownn hgood hKl
      have rb := ownB_read ownb
      obtain ⟨a2, cap2, rfl, q1, q2, q3⟩ := ownN_read ownn
      have HGD := Lib.hid hgood; have Q3 := Lib.hid q3
      clear hK ownb ownn hgood q3 hk
      obtain ⟨W1, hW1⟩ : ∃ W1, W1 = wr := ⟨_, rfl⟩
      subst hW1
      go_wp2_with fail
      go_loopw [3, 43] (fun v i w2 => ∃ j : Nat, j ≤ K.length ∧ i = .int .i64 j ∧ ReadB w2 v (bytesN (K.drop j)) ∧ Below W1.heap.size W1 w2) (fun _ i _ => K.length - (intOf i).toNat)
      case atStart => exact ⟨0, Nat.zero_le _, rfl, rb, Below.refl _ _⟩
      case round =>
        obtain ⟨j, hj, rfl, hr, hb2⟩ := hrel
        by_cases hjn : j < K.length
        · have k1 : (j : Int) < K.length := by omega
          have k0 : (0 : Int) ≤ j := by omega
          have kmax : (j : Int) < 12 := by omega
          obtain ⟨g, o, rfl, hgl, hcell⟩ := Q3.out (by omega)
          obtain ⟨i, hi⟩ : ∃ i, i = K[j] := ⟨_, rfl⟩
          have hc : ∀ n, n < 4 → wr.cell? ⟨g, o + (j * 4 + n), none⟩ = (cellsI i)[n]? := fun n hn => by rw [(bcell hb2).1 _ _ hgl, hi]; exact hcell j hjn n hn
          have hc0 : wr.cell? ⟨g, o + j * 4, none⟩ = some (.int .i64 i.op) := hc 0 (by omega)
          have hc1 : wr.cell? ⟨g, o + j * 4 + 1, none⟩ = some (.int .u64 i.x) := by rw [Nat.add_assoc]; exact hc 1 (by omega)
          have hc2 : wr.cell? ⟨g, o + j * 4 + 2, none⟩ = some (.int .i64 i.a) := by rw [Nat.add_assoc]; exact hc 2 (by omega)
          have hc3 : wr.cell? ⟨g, o + j * 4 + 3, none⟩ = some (.int .i64 i.b) := by rw [Nat.add_assoc]; exact hc 3 (by omega)
          obtain ⟨⟨gx, gx2⟩, gm⟩ := HGD.out i (by rw [hi]; exact List.getElem_mem hjn)
          have hdrop : K.drop j = i :: K.drop (j + 1) := by rw [hi]; exact List.drop_eq_getElem_cons hjn
          obtain ⟨R, hR⟩ : ∃ R, R = bytesN (K.drop (j + 1)) := ⟨_, rfl⟩
          have hxs : bytesN (K.drop j) = bytI i ++ R := by rw [hdrop, hR]; rfl
          have hRb : IsBytes R := by rw [hR]; exact isBytes_N _
          have hRl : R.length ≤ 156 := by rw [hR]; have := bytesN_le (K.drop (j + 1)); rw [List.length_drop] at this; omega
          obtain ⟨e1, e2, e3, e4, e5⟩ := bytes_back gm gx gx2 R
          have hbl := bytesI_sz i.op i.x i.a i.b
          have hbb := isBytes_bytesI i.op i.x i.a i.b
          rw [hxs] at hr
          obtain ⟨xs, hx⟩ : ∃ xs, xs = bytI i ++ R := ⟨_, rfl⟩
          have hxl : xs.length = szR i.op + R.length := by rw [hx, List.length_append]; unfold bytI; rw [hbl]
          have hxb : IsBytes xs := by rw [hx]; exact isBytes_append hbb hRb
          change okR (bytI i ++ R) = true at e1
          change opR (bytI i ++ R) = i.op at e2
          change xR (bytI i ++ R) = i.x at e3
          change aR (bytI i ++ R) = i.a at e4
          change bR (bytI i ++ R) = i.b at e5
          rw [← hx] at e1 e2 e3 e4 e5 hr
          have szp := szR_pos2 i.op
          have szm : szR i.op ≤ 13 := by have := bytI_le i; unfold bytI at this; omega
          obtain ⟨n, hn⟩ : ∃ n, n = szR i.op := ⟨_, rfl⟩
          rw [← hn] at szp szm hxl
          obtain ⟨b, bo, bcap, rfl, p1, p2, p3, p4⟩ := readB_pos hr (by omega)
          have HI := Lib.hid hi; have HC := Lib.hid hcell; have HGL := Lib.hid hgl; have HD := Lib.hid hdrop; have HX := Lib.hid hx; have HXS := Lib.hid hxs; have HR := Lib.hid hR
          have HRD := Lib.hid hr; have P4 := Lib.hid p4; have GM := Lib.hid gm; have HN := Lib.hid hn
          have hxl4 : xs.length ≤ 274877906944 := by omega
          have hxn : n ≤ xs.length := by omega
          have HXL := Lib.hid hxl
          clear hi hcell hc hgl hdrop hx hxs hR hr p4 gm gx gx2 hbl hbb hRb hn hxl
          go_wp2_with fail
          have hr1 : ReadB (wr.alloc (.cells #[.int .i64 i.op, .int .u64 i.x, .int .i64 i.a, .int .i64 i.b] 24)) (.slice (some ⟨b, bo, none⟩) xs.length bcap) xs := readB_below HRD.out (b_alloc (Below.refl wr.heap.size wr) _)
          refine (iread_ok _ xs _ hr1 hxb hxl4 e1).mono ?_
          rintro e w3 ⟨rfl, hb3⟩
          rw [e2, e3, e4, e5, ← HN.out]
          unfold instV
          clear e1 e2 e3 e4 e5
          obtain ⟨c0, c1, c2, c3, cf⟩ := blk4 (blk_born hb3)
          have z3 := (blk_born hb3).1
          have hB3 := b_call (b_alloc hb2 (.cells #[.int .i64 i.op, .int .u64 i.x, .int .i64 i.a, .int .i64 i.b] 24)) hb3
          have tn : decide ((n : Int) < 1) = false := by rw [decide_eq_false_iff_not]; omega
          have tm : decide ((xs.length : Int) < n) = false := by rw [decide_eq_false_iff_not]; omega
          clear c0 c1 c2 c3 cf
          go_upto_region 15 with fail
          refine wp_world _ ?_
          intro w4 hw4
          have hb4 : Below w3.heap.size w3 w4 := by rw [hw4]; exact b_alloc (Below.refl _ _) _
          obtain ⟨d0, d1, d2, d3, df⟩ := blk4 (show Blk w4 w3.heap.size [.int .i64 i.op, .int .u64 i.x, .int .i64 i.a, .int .i64 i.b] by rw [hw4]; exact blk_new _ _ _)
          have z4 : w3.heap.size < w4.heap.size := by rw [hw4, World.size_alloc]; omega
          obtain ⟨c0, c1, c2, c3, cf⟩ := blk4 (blk_below (blk_born hb3) hb4)
          have z5 : wr.heap.size < w4.heap.size := by omega
          have hB4 := b_call hB3 hb4
          clear hw4
          refine wp_region_over_lit (by kernel_rfl) (by kernel_rfl) ?_
          repeat (quiet_step ((first | (go_at_call 22; exact over_call (plain_any _ _ _ _ _)))))
          refine wpQuiet_nil ?_
          intro w9 hb9; replace hb9 := over_elim hb9; obtain ⟨hc9, hf9⟩ := bcell hb9; have hz9 := hb9.size; try simp only [World.size_alloc, World.size_setCell, World.size_drew] at hz9
          go_wp2_with fail
          have hd : xs.drop n = bytesN (K.drop (j + 1)) := by
            rw [HX.out, ← HR.out, HN.out, ← bytesI_sz i.op i.x i.a i.b]
            exact List.drop_left
          have hr9 := readB_from (readB_below HRD.out (b_call (b_call (b_call (b_alloc (Below.refl wr.heap.size wr) _) hb3) hb4) hb9)) hxn
          rw [hd] at hr9
          exact ⟨⟨j + 1, by omega, by rw [Int.natCast_succ], hr9, b_call hB4 hb9⟩, by simp only [intOf]; omega⟩
        · obtain rfl : j = K.length := by omega
          have t1 : decide ((K.length : Int) < K.length) = false := by rw [decide_eq_false_iff_not]; omega
          rw [List.drop_length] at hr
          obtain ⟨va, vc, rfl⟩ := readB_len hr
          rw [show (bytesN []).length = 0 from rfl]
          have hB9 := b_call hbw hb2
          clear hr
          go_wp2_with fail
          refine (awake24 _).mono ?_
          rintro e w4 ⟨rfl, hb4⟩
          go_wp2_with fail
          go_ret
          exact ⟨rfl, b_call hB9 hb4⟩
end Go.Proofs.Ytdhkemnebppkhaa
