/- Layer 24: instructions as bytes, and back: ours and the document's. Conditions: those stated. -/
import Derived.Test.YtdhkemnebppkhaaInstrTwo
import Derived.Laws.OwnMore
namespace Go.Proofs.Ytdhkemnebppkhaa
open Go.RowKit
set_option linter.unusedVariables false
set_option linter.unusedSimpArgs false
/-- The bytes of an instruction that may be. -/
def bytesI (op x a b : Int) : List Int := [op % 256] ++ (if shX op = true then putL 8 x else []) ++ (if 0 < shN op then putL 2 a else []) ++ (if 1 < shN op then putL 2 b else [])
theorem bytesI_length (op x a b : Int) : (bytesI op x a b).length = 1 + (if shX op = true then 8 else 0) + (if 0 < shN op then 2 else 0) + (if 1 < shN op then 2 else 0) := by
  unfold bytesI
  simp only [List.length_append, List.length_cons, List.length_nil]
  split <;> split <;> split <;> simp [putL_length]
def RetBytes (w : World) (xs : List Int) (n : Int) (e : Ending) (w' : World) : Prop := ∃ v, e = .returned (.tuple #[v, .int .i64 n]) ∧ OwnB w' w.heap.size v xs ∧ Below w.heap.size w w'
theorem ibytes_none (op x a b : Int) (w : World) (h : mayB op x a b = false) : Calls Try.prog 19 #[.agg #[.int .i64 op, .int .u64 x, .int .i64 a, .int .i64 b]] w (RetBytes w [] 1) := by
  have hB : Below w.heap.size w (w.alloc (.cells #[.int .i64 op, .int .u64 x, .int .i64 a, .int .i64 b] 32)) := b_alloc (Below.refl _ _) _
  go_enter Try.func19, Try.ntmps19
  go_wp2_with fail
  refine (may_any _ _ _ _ _).mono ?_
  rintro e w1 ⟨rfl, hb1⟩
  rw [h]
  have H := Lib.hid h; clear h
  go_wp2_with fail
  go_ret2
  exact ⟨_, rfl, ownB_nil _ _, b_call hB hb1⟩
def arg2 (a b : Int) (j : Nat) : Int := if j = 0 then a else b
def preL (base : List Int) (a b : Int) : Nat → List Int
  | 0 => base
  | j + 1 => preL base a b j ++ putL 2 (arg2 a b j)
theorem preL_length (base : List Int) (a b : Int) : ∀ j, (preL base a b j).length = base.length + 2 * j
  | 0 => rfl
  | j + 1 => by rw [preL, List.length_append, preL_length base a b j, putL_length]; omega
theorem ownB_lit {w : World} {B : Nat} (x : Int) (hB : B ≤ w.heap.size) : OwnB (w.alloc (.cells #[.int .u8 x] 5)) B (.slice (some ⟨w.heap.size, 0, none⟩) 1 1) [x] :=
  World.ownsRow_lit w #[.int .u8 x] 1 hB (by unfold maxLen; decide) rfl
/-- The words behind the op's byte: what Bytes makes of a and b. -/
theorem may_arg {op x a b : Int} (h : mayB op x a b = true) : (0 ≤ a ∧ a ≤ 65535) ∧ (0 ≤ b ∧ b ≤ 65535) := by
  unfold mayB at h
  simp only [Bool.and_eq_true] at h
  have f : ∀ n t, smallB n t = true → 0 ≤ n ∧ n ≤ 65535 := fun n t h => by
    rcases (show (n < 0 ∨ 65535 < n) ∨ (0 ≤ n ∧ n ≤ 65535) by omega) with q | q
    · rw [small_out q] at h; cases h
    · exact q
  exact ⟨f _ _ h.1.2, f _ _ h.2⟩
/-- A row of bytes never lies in a block of ints. -/
theorem ownB_ne {w : World} {B g : Nat} {v : Value} {xs : List Int} {cs : Array Value} (h : OwnB w B v xs) (hg : w.heap[g]? = some (.cells cs 3 (0, 0))) : some g ≠ v.ownBlock := by
  rcases h.2 with ⟨rfl, _⟩ | ⟨g', cap, cur, rfl, _, hh, _⟩
  · intro e; cases e
  · intro e
    have e2 : g = g' := by cases e; rfl
    subst e2
    rw [hg] at hh; cases hh
theorem lt_of_block {w : World} {g : Nat} {o : Obj} (h : w.heap[g]? = some o) : g < w.heap.size := by
  rcases Nat.lt_or_ge g w.heap.size with q | q
  · exact q
  · rw [Array.getElem?_eq_none q] at h; cases h
theorem arg2_bd {a b : Int} (h : (0 ≤ a ∧ a ≤ 65535) ∧ (0 ≤ b ∧ b ≤ 65535)) (j : Nat) : 0 ≤ arg2 a b j ∧ arg2 a b j ≤ 65535 := by
  unfold arg2; split
  · exact h.1
  · exact h.2
theorem block_cell {w : World} {g : Nat} {cs : Array Value} {T : TypeId} (h : w.heap[g]? = some (.cells cs T (0, 0))) (j : Nat) : w.cell? ⟨g, j, none⟩ = cs[j]? := cell_of_row w g j cs T (0, 0) h
set_option maxHeartbeats 1000000 in
theorem ibytes_some (op x a b : Int) (w : World) (h : mayB op x a b = true) (hx : 0 ≤ x) (hx2 : x < 18446744073709551616) : Calls Try.prog 19 #[.agg #[.int .i64 op, .int .u64 x, .int .i64 a, .int .i64 b]] w (RetBytes w (bytesI op x a b) 0) := by
  have hB : Below w.heap.size w (w.alloc (.cells #[.int .i64 op, .int .u64 x, .int .i64 a, .int .i64 b] 32)) := b_alloc (Below.refl _ _) _
  go_enter Try.func19, Try.ntmps19
  go_wp2_with fail
  refine (may_any _ _ _ _ _).mono ?_
  rintro e w1 ⟨rfl, hb1⟩
  rw [h]
  have H := Lib.hid h; clear h
  obtain ⟨c0, c1, c2, c3⟩ := cells4 hb1
  have hB1 := b_call hB hb1
  go_wp2_with fail
  refine (shape_any _ _).mono ?_
  rintro e w2 ⟨rfl, rfl⟩
  obtain ⟨n, hn, hn2⟩ : ∃ n : Nat, shN op = (n : Int) ∧ n ≤ 2 := by
    unfold shN; split
    · exact ⟨2, rfl, by omega⟩
    · split
      · exact ⟨1, rfl, by omega⟩
      · exact ⟨0, rfl, by omega⟩
  have HA := Lib.hid (may_arg H.out)
  have n2 : (n : Int) ≤ 2 := by omega
  have n0 : (0 : Int) ≤ n := by omega
  have hbase : Hid (bytesI op x a b = preL ([op % 256] ++ (if shX op = true then putL 8 x else [])) a b n) := Lib.hid (by
    unfold bytesI; rw [hn]
    match n, hn2 with
    | 0, _ => simp [preL]
    | 1, _ => simp [preL, arg2]
    | 2, _ => simp [preL, arg2])
  rw [hn]
  go_upto_region 5 with fail
  refine wp_world _ ?_
  intro w3 hw3
  have hB3 : Below w.heap.size w w3 := by rw [hw3]; exact b_alloc hB1 _
  have own3 : OwnB w3 (w.heap.size + 1) (.slice (some ⟨w1.heap.size, 0, none⟩) 1 1) [op % 256] := by rw [hw3]; exact ownB_lit _ (by have := hb1.size; simp at this; omega)
  have hbw3 := b_alloc hb1 (.cells #[.int .u8 (op % 256)] 5)
  rw [← hw3] at hbw3
  clear hw3 c0 c1 c2 c3
  obtain ⟨c0, c1, c2, c3⟩ := cells4 hbw3
  generalize Value.slice (some ⟨w1.heap.size, 0, none⟩) 1 1 = v3 at own3 ⊢
  clear hb1 hB1
  have HN := Lib.hid hn; have HN2 := Lib.hid hn2; have HX := Lib.hid hx; have HX2 := Lib.hid hx2
  clear hn hn2 hx hx2
  generalize shX op = sx at hbase ⊢
  cases sx with
  | false =>
    have own4 : OwnB w3 (w.heap.size + 1) v3 ([op % 256] ++ (if false = true then putL 8 x else [])) := by simpa using own3
    clear own3
    go_wp2_with fail
    have hbl : (w3.alloc (.cells #[.int .i64 a, .int .i64 b] 3)).heap[w3.heap.size]? = some (.cells #[.int .i64 a, .int .i64 b] 3 (0, 0)) := heap_alloc_new w3 _
    have hBa := b_alloc hB3 (.cells #[.int .i64 a, .int .i64 b] 3)
    have owa := ownB_alloc own4 (.cells #[.int .i64 a, .int .i64 b] 3)
    go_loopw [7, 9, 38] (fun v u i wr => ∃ j : Nat, j ≤ n ∧ i = .int .i64 j ∧ OwnB wr (w.heap.size + 1) v (preL ([op % 256] ++ (if false = true then putL 8 x else [])) a b j) ∧ wr.heap[w3.heap.size]? = some (.cells #[.int .i64 a, .int .i64 b] 3 (0, 0)) ∧ Below w.heap.size w wr) (fun _ _ i _ => n - (intOf i).toNat)
    case atStart => exact ⟨0, by omega, rfl, owa, hbl, hBa⟩
    case round =>
      obtain ⟨j, hj, rfl, hown, hblk, hbw⟩ := hrel
      by_cases hjn : j < n
      · have k1 : (j : Int) < n := by omega
        have k0 : (0 : Int) ≤ j := by omega
        obtain ⟨z1, z2⟩ := arg2_bd HA.out j
        have hc : wr.cell? ⟨w3.heap.size, j, none⟩ = some (.int .i64 (arg2 a b j)) := by
          rw [block_cell hblk]
          rcases (show j = 0 ∨ j = 1 by have := HN2.out; omega) with rfl | rfl
          · rfl
          · rfl
        have hpre : preL ([op % 256] ++ (if false = true then putL 8 x else [])) a b (j + 1) = preL ([op % 256] ++ (if false = true then putL 8 x else [])) a b j ++ putL 2 (arg2 a b j) := rfl
        have hlen := preL_length ([op % 256] ++ (if false = true then putL 8 x else [])) a b j
        obtain ⟨z, hz⟩ : ∃ z, z = arg2 a b j := ⟨_, rfl⟩
        rw [← hz] at hc z1 z2 hpre
        have hcv : IntKind.u64.wrap z = z := by rw [IntWalk.u64_in]; omega
        have HZ := Lib.hid hz; have HP := Lib.hid hpre; have HL := Lib.hid hlen; have HJ := Lib.hid hj
        have Z1 := Lib.hid z1; have Z2 := Lib.hid z2
        clear hz hpre hlen hj z1 z2
        go_wp2_with fail
        refine (nput_any 2 z wr (by omega) (by omega) Z1.out (by have := Z2.out; omega)).mono ?_
        rintro e w6 ⟨v6, rfl, own6, hb6⟩
        have blk6 := (hb6.block _ (lt_of_block hblk)).trans hblk
        have own7 := ownB_below hown hb6
        go_wp2_with (at_builtin; refine appendB rfl _ _ rfl (w.heap.size + 1) _ _ rfl own7 _ (putL 2 z) rfl (ownB_read own6) ?c1 ?c2 ?_; (case c1 => (rw [putL_length, HL.out]; have := HN2.out; have := HJ.out; simp [putL_length]; omega)); (case c2 => (have := lt_of_block hblk; have := hb6.size; have := hbw.size; have := hB3.size; omega)); intro v8 w8 own8 hg8)
        have blk8 := (hg8.block _ (lt_of_block blk6) (ownB_ne own7 blk6)).trans blk6
        refine ⟨⟨j + 1, by omega, by rw [Int.natCast_succ], by rw [HP.out]; exact own8, blk8, ?_⟩, by simp [intOf]; omega⟩
        exact b_ownB (b_call hbw hb6) (ownB_mono own7 (by omega)) hg8
      · have E : j = n := by omega
        subst E
        have t1 : decide ((j : Int) < j) = false := by rw [decide_eq_false_iff_not]; omega
        go_wp2_with fail
        go_ret2
        exact ⟨_, rfl, by rw [hbase.out]; exact ownB_mono hown (by omega), hbw⟩
  | true =>
    have hbase2 : Hid (bytesI op x a b = preL ([op % 256] ++ putL 8 x) a b n) := Lib.hid (by have e := hbase.out; simpa using e)
    clear hbase
    go_wp2_with fail
    refine (nput_any 8 x w3 (by omega) (by omega) HX.out HX2.out).mono ?_
    rintro e w4 ⟨v4, rfl, own4, hb4⟩
    go_wp2_with (at_builtin; refine appendB rfl _ _ rfl (w.heap.size + 1) _ [op % 256] rfl (ownB_below own3 hb4) _ (putL 8 x) rfl (ownB_read own4) ?c1 ?c2 ?_; (case c1 => (rw [putL_length]; simp)); (case c2 => (have := hbw3.size; have := hb4.size; simp at *; omega)); intro v5 w5 own5 hg5; have hbw5 := b_ownB (b_call hbw3 hb4) (by rw [World.size_alloc]; exact ownB_below own3 hb4) hg5; clear c0 c1 c2 c3; obtain ⟨c0, c1, c2, c3⟩ := cells4 hbw5)
    have hB5 : Below w.heap.size w w5 := b_call hB hbw5
    have hbl : (w5.alloc (.cells #[.int .i64 a, .int .i64 b] 3)).heap[w5.heap.size]? = some (.cells #[.int .i64 a, .int .i64 b] 3 (0, 0)) := heap_alloc_new w5 _
    have hBa := b_alloc hB5 (.cells #[.int .i64 a, .int .i64 b] 3)
    have owa := ownB_alloc own5 (.cells #[.int .i64 a, .int .i64 b] 3)
    go_loopw [7, 9, 38] (fun v u i wr => ∃ j : Nat, j ≤ n ∧ i = .int .i64 j ∧ OwnB wr (w.heap.size + 1) v (preL ([op % 256] ++ putL 8 x) a b j) ∧ wr.heap[w5.heap.size]? = some (.cells #[.int .i64 a, .int .i64 b] 3 (0, 0)) ∧ Below w.heap.size w wr) (fun _ _ i _ => n - (intOf i).toNat)
    case atStart => exact ⟨0, by omega, rfl, owa, hbl, hBa⟩
    case round =>
      obtain ⟨j, hj, rfl, hown, hblk, hbw⟩ := hrel
      by_cases hjn : j < n
      · have k1 : (j : Int) < n := by omega
        have k0 : (0 : Int) ≤ j := by omega
        obtain ⟨z1, z2⟩ := arg2_bd HA.out j
        have hc : wr.cell? ⟨w5.heap.size, j, none⟩ = some (.int .i64 (arg2 a b j)) := by
          rw [block_cell hblk]
          rcases (show j = 0 ∨ j = 1 by have := HN2.out; omega) with rfl | rfl
          · rfl
          · rfl
        have hpre : preL ([op % 256] ++ putL 8 x) a b (j + 1) = preL ([op % 256] ++ putL 8 x) a b j ++ putL 2 (arg2 a b j) := rfl
        have hlen := preL_length ([op % 256] ++ putL 8 x) a b j
        obtain ⟨z, hz⟩ : ∃ z, z = arg2 a b j := ⟨_, rfl⟩
        rw [← hz] at hc z1 z2 hpre
        have hcv : IntKind.u64.wrap z = z := by rw [IntWalk.u64_in]; omega
        have HZ := Lib.hid hz; have HP := Lib.hid hpre; have HL := Lib.hid hlen; have HJ := Lib.hid hj
        have Z1 := Lib.hid z1; have Z2 := Lib.hid z2
        clear hz hpre hlen hj z1 z2
        go_wp2_with fail
        refine (nput_any 2 z wr (by omega) (by omega) Z1.out (by have := Z2.out; omega)).mono ?_
        rintro e w6 ⟨v6, rfl, own6, hb6⟩
        have blk6 := (hb6.block _ (lt_of_block hblk)).trans hblk
        have own7 := ownB_below hown hb6
        go_wp2_with (at_builtin; refine appendB rfl _ _ rfl (w.heap.size + 1) _ _ rfl own7 _ (putL 2 z) rfl (ownB_read own6) ?c1 ?c2 ?_; (case c1 => (rw [putL_length, HL.out]; have := HN2.out; have := HJ.out; simp [putL_length]; omega)); (case c2 => (have := lt_of_block hblk; have := hb6.size; have := hbw.size; have := hB5.size; omega)); intro v8 w8 own8 hg8)
        have blk8 := (hg8.block _ (lt_of_block blk6) (ownB_ne own7 blk6)).trans blk6
        refine ⟨⟨j + 1, by omega, by rw [Int.natCast_succ], by rw [HP.out]; exact own8, blk8, ?_⟩, by simp [intOf]; omega⟩
        exact b_ownB (b_call hbw hb6) (ownB_mono own7 (by omega)) hg8
      · have E : j = n := by omega
        subst E
        have t1 : decide ((j : Int) < j) = false := by rw [decide_eq_false_iff_not]; omega
        go_wp2_with fail
        go_ret2
        exact ⟨_, rfl, by rw [hbase2.out]; exact ownB_mono hown (by omega), hbw⟩
theorem flag_kind (op : Int) : (hasB op 120 = shX op) ∧ (hasB op 97 = decide (0 < shN op)) ∧ (hasB op 98 = decide (1 < shN op)) := by
  obtain ⟨e1, e2, e3⟩ := has_xs op
  rw [e1, e2, e3]
  unfold shX shN
  have h := kind_le op
  generalize kindOf op = n at h
  match n, h with
  | 0, _ => exact ⟨rfl, rfl, rfl⟩
  | 1, _ => exact ⟨rfl, rfl, rfl⟩
  | 2, _ => exact ⟨rfl, rfl, rfl⟩
  | 3, _ => exact ⟨rfl, rfl, rfl⟩
  | 4, _ => exact ⟨rfl, rfl, rfl⟩
/-- The bytes, by the document's own flags. -/
def bytesF (q0 q1 q2 : Bool) (op x a b : Int) : List Int := [op % 256] ++ (if q0 = true then putL 8 x else []) ++ (if q1 = true then putL 2 a else []) ++ (if q2 = true then putL 2 b else [])
theorem bytesF_eq (op x a b : Int) : bytesI op x a b = bytesF (hasB op 120) (hasB op 97) (hasB op 98) op x a b := by
  obtain ⟨e1, e2, e3⟩ := flag_kind op
  unfold bytesI bytesF
  rw [e1, e2, e3]
  simp only [decide_eq_true_iff]
set_option maxHeartbeats 1000000 in
theorem rbytes_any (op x a b : Int) (w : World) (hx : 0 ≤ x) (hx2 : x < 18446744073709551616) (ha : 0 ≤ a ∧ a ≤ 65535) (hb : 0 ≤ b ∧ b ≤ 65535) : Calls Try.prog 21 #[.agg #[.int .i64 op, .int .u64 x, .int .i64 a, .int .i64 b]] w (RetOwnB w (bytesI op x a b)) := by
  have hB : Below w.heap.size w (w.alloc (.cells #[.int .i64 op, .int .u64 x, .int .i64 a, .int .i64 b] 24)) := b_alloc (Below.refl _ _) _
  have hcvA : IntKind.u64.wrap a = a := by rw [IntWalk.u64_in]; omega
  have hcvB : IntKind.u64.wrap b = b := by rw [IntWalk.u64_in]; omega
  rw [bytesF_eq]
  have HX := Lib.hid hx; have HX2 := Lib.hid hx2; have HA := Lib.hid ha; have HB := Lib.hid hb
  clear hx hx2 ha hb
  go_enter Try.func21, Try.ntmps21
  go_upto_region 2 with fail
  refine wp_world _ ?_
  intro w3 hw3
  have hbw3 : Below (w.alloc (.cells #[.int .i64 op, .int .u64 x, .int .i64 a, .int .i64 b] 24)).heap.size (w.alloc (.cells #[.int .i64 op, .int .u64 x, .int .i64 a, .int .i64 b] 24)) w3 := by rw [hw3]; exact b_alloc (Below.refl _ _) _
  have own3 : OwnB w3 (w.heap.size + 1) (.slice (some ⟨w.heap.size + 1, 0, none⟩) 1 1) [op % 256] := by
    have e := ownB_lit (w := w.alloc (.cells #[.int .i64 op, .int .u64 x, .int .i64 a, .int .i64 b] 24)) (B := w.heap.size + 1) (op % 256) (by simp)
    rw [World.size_alloc] at e
    rw [hw3]; exact e
  clear hw3
  obtain ⟨c0, c1, c2, c3⟩ := cells4 hbw3
  generalize Value.slice (some ⟨w.heap.size + 1, 0, none⟩) 1 1 = v3 at own3 ⊢
  go_wp2_with fail
  refine (has_any _ _ _).mono ?_
  rintro e w0_1 ⟨rfl, hh0⟩
  have hbw0a := b_call hbw3 hh0
  have own0a := ownB_below own3 hh0
  clear c0 c1 c2 c3
  obtain ⟨c0, c1, c2, c3⟩ := cells4 hbw0a
  generalize hq0 : hasB op 120 = q0
  have HQ0 := Lib.hid hq0; clear hq0
  cases q0 with
  | false =>
    go_wp2_with fail
    refine (has_any _ _ _).mono ?_
    rintro e w1_1 ⟨rfl, hh1⟩
    have hbw1a := b_call hbw0a hh1
    have own1a := ownB_below own0a hh1
    clear c0 c1 c2 c3
    obtain ⟨c0, c1, c2, c3⟩ := cells4 hbw1a
    generalize hq1 : hasB op 97 = q1
    have HQ1 := Lib.hid hq1; clear hq1
    cases q1 with
    | false =>
      go_wp2_with fail
      refine (has_any _ _ _).mono ?_
      rintro e w2_1 ⟨rfl, hh2⟩
      have hbw2a := b_call hbw1a hh2
      have own2a := ownB_below own1a hh2
      clear c0 c1 c2 c3
      obtain ⟨c0, c1, c2, c3⟩ := cells4 hbw2a
      generalize hq2 : hasB op 98 = q2
      have HQ2 := Lib.hid hq2; clear hq2
      cases q2 with
      | false =>
        go_wp2_with fail
        go_ret
        exact ⟨_, rfl, ownB_mono (by unfold bytesF; rw [HQ0.out, HQ1.out, HQ2.out]; simpa using own2a) (by omega), b_call hB hbw2a⟩
      | true =>
        go_wp2_with fail
        refine (rnput_any 2 b _ (by omega) HB.out.1 (by have := HB.out; omega)).mono ?_
        rintro e w2_2 ⟨p2, rfl, ownp2, hp2⟩
        have own2b := ownB_below own2a hp2
        go_wp2_with (at_builtin; refine appendB rfl _ _ rfl (w.heap.size + 1) _ _ rfl own2b _ (putL 2 b) rfl (ownB_read ownp2) ?c1 ?c2 ?_; (case c1 => simp [putL_length]); (case c2 => (have := hbw2a.size; have := hp2.size; simp only [World.size_alloc] at *; omega)); intro v23 w2_3 own2c hg2; have hbw2c := b_ownB (b_call hbw2a hp2) (by rw [World.size_alloc]; exact own2b) hg2; clear c0 c1 c2 c3; obtain ⟨c0, c1, c2, c3⟩ := cells4 hbw2c)
        go_ret
        exact ⟨_, rfl, ownB_mono (by unfold bytesF; rw [HQ0.out, HQ1.out, HQ2.out]; simpa using own2c) (by omega), b_call hB hbw2c⟩
    | true =>
      go_wp2_with fail
      refine (rnput_any 2 a _ (by omega) HA.out.1 (by have := HA.out; omega)).mono ?_
      rintro e w1_2 ⟨p1, rfl, ownp1, hp1⟩
      have own1b := ownB_below own1a hp1
      go_wp2_with (at_builtin; refine appendB rfl _ _ rfl (w.heap.size + 1) _ _ rfl own1b _ (putL 2 a) rfl (ownB_read ownp1) ?c1 ?c2 ?_; (case c1 => simp [putL_length]); (case c2 => (have := hbw1a.size; have := hp1.size; simp only [World.size_alloc] at *; omega)); intro v13 w1_3 own1c hg1; have hbw1c := b_ownB (b_call hbw1a hp1) (by rw [World.size_alloc]; exact own1b) hg1; clear c0 c1 c2 c3; obtain ⟨c0, c1, c2, c3⟩ := cells4 hbw1c)
      refine (has_any _ _ _).mono ?_
      rintro e w2_1 ⟨rfl, hh2⟩
      have hbw2a := b_call hbw1c hh2
      have own2a := ownB_below own1c hh2
      clear c0 c1 c2 c3
      obtain ⟨c0, c1, c2, c3⟩ := cells4 hbw2a
      generalize hq2 : hasB op 98 = q2
      have HQ2 := Lib.hid hq2; clear hq2
      cases q2 with
      | false =>
        go_wp2_with fail
        go_ret
        exact ⟨_, rfl, ownB_mono (by unfold bytesF; rw [HQ0.out, HQ1.out, HQ2.out]; simpa using own2a) (by omega), b_call hB hbw2a⟩
      | true =>
        go_wp2_with fail
        refine (rnput_any 2 b _ (by omega) HB.out.1 (by have := HB.out; omega)).mono ?_
        rintro e w2_2 ⟨p2, rfl, ownp2, hp2⟩
        have own2b := ownB_below own2a hp2
        go_wp2_with (at_builtin; refine appendB rfl _ _ rfl (w.heap.size + 1) _ _ rfl own2b _ (putL 2 b) rfl (ownB_read ownp2) ?c1 ?c2 ?_; (case c1 => simp [putL_length]); (case c2 => (have := hbw2a.size; have := hp2.size; simp only [World.size_alloc] at *; omega)); intro v23 w2_3 own2c hg2; have hbw2c := b_ownB (b_call hbw2a hp2) (by rw [World.size_alloc]; exact own2b) hg2; clear c0 c1 c2 c3; obtain ⟨c0, c1, c2, c3⟩ := cells4 hbw2c)
        go_ret
        exact ⟨_, rfl, ownB_mono (by unfold bytesF; rw [HQ0.out, HQ1.out, HQ2.out]; simpa using own2c) (by omega), b_call hB hbw2c⟩
  | true =>
    go_wp2_with fail
    refine (rnput_any 8 x _ (by omega) HX.out HX2.out).mono ?_
    rintro e w0_2 ⟨p0, rfl, ownp0, hp0⟩
    have own0b := ownB_below own0a hp0
    go_wp2_with (at_builtin; refine appendB rfl _ _ rfl (w.heap.size + 1) _ _ rfl own0b _ (putL 8 x) rfl (ownB_read ownp0) ?c1 ?c2 ?_; (case c1 => simp [putL_length]); (case c2 => (have := hbw0a.size; have := hp0.size; simp only [World.size_alloc] at *; omega)); intro v03 w0_3 own0c hg0; have hbw0c := b_ownB (b_call hbw0a hp0) (by rw [World.size_alloc]; exact own0b) hg0; clear c0 c1 c2 c3; obtain ⟨c0, c1, c2, c3⟩ := cells4 hbw0c)
    refine (has_any _ _ _).mono ?_
    rintro e w1_1 ⟨rfl, hh1⟩
    have hbw1a := b_call hbw0c hh1
    have own1a := ownB_below own0c hh1
    clear c0 c1 c2 c3
    obtain ⟨c0, c1, c2, c3⟩ := cells4 hbw1a
    generalize hq1 : hasB op 97 = q1
    have HQ1 := Lib.hid hq1; clear hq1
    cases q1 with
    | false =>
      go_wp2_with fail
      refine (has_any _ _ _).mono ?_
      rintro e w2_1 ⟨rfl, hh2⟩
      have hbw2a := b_call hbw1a hh2
      have own2a := ownB_below own1a hh2
      clear c0 c1 c2 c3
      obtain ⟨c0, c1, c2, c3⟩ := cells4 hbw2a
      generalize hq2 : hasB op 98 = q2
      have HQ2 := Lib.hid hq2; clear hq2
      cases q2 with
      | false =>
        go_wp2_with fail
        go_ret
        exact ⟨_, rfl, ownB_mono (by unfold bytesF; rw [HQ0.out, HQ1.out, HQ2.out]; simpa using own2a) (by omega), b_call hB hbw2a⟩
      | true =>
        go_wp2_with fail
        refine (rnput_any 2 b _ (by omega) HB.out.1 (by have := HB.out; omega)).mono ?_
        rintro e w2_2 ⟨p2, rfl, ownp2, hp2⟩
        have own2b := ownB_below own2a hp2
        go_wp2_with (at_builtin; refine appendB rfl _ _ rfl (w.heap.size + 1) _ _ rfl own2b _ (putL 2 b) rfl (ownB_read ownp2) ?c1 ?c2 ?_; (case c1 => simp [putL_length]); (case c2 => (have := hbw2a.size; have := hp2.size; simp only [World.size_alloc] at *; omega)); intro v23 w2_3 own2c hg2; have hbw2c := b_ownB (b_call hbw2a hp2) (by rw [World.size_alloc]; exact own2b) hg2; clear c0 c1 c2 c3; obtain ⟨c0, c1, c2, c3⟩ := cells4 hbw2c)
        go_ret
        exact ⟨_, rfl, ownB_mono (by unfold bytesF; rw [HQ0.out, HQ1.out, HQ2.out]; simpa using own2c) (by omega), b_call hB hbw2c⟩
    | true =>
      go_wp2_with fail
      refine (rnput_any 2 a _ (by omega) HA.out.1 (by have := HA.out; omega)).mono ?_
      rintro e w1_2 ⟨p1, rfl, ownp1, hp1⟩
      have own1b := ownB_below own1a hp1
      go_wp2_with (at_builtin; refine appendB rfl _ _ rfl (w.heap.size + 1) _ _ rfl own1b _ (putL 2 a) rfl (ownB_read ownp1) ?c1 ?c2 ?_; (case c1 => simp [putL_length]); (case c2 => (have := hbw1a.size; have := hp1.size; simp only [World.size_alloc] at *; omega)); intro v13 w1_3 own1c hg1; have hbw1c := b_ownB (b_call hbw1a hp1) (by rw [World.size_alloc]; exact own1b) hg1; clear c0 c1 c2 c3; obtain ⟨c0, c1, c2, c3⟩ := cells4 hbw1c)
      refine (has_any _ _ _).mono ?_
      rintro e w2_1 ⟨rfl, hh2⟩
      have hbw2a := b_call hbw1c hh2
      have own2a := ownB_below own1c hh2
      clear c0 c1 c2 c3
      obtain ⟨c0, c1, c2, c3⟩ := cells4 hbw2a
      generalize hq2 : hasB op 98 = q2
      have HQ2 := Lib.hid hq2; clear hq2
      cases q2 with
      | false =>
        go_wp2_with fail
        go_ret
        exact ⟨_, rfl, ownB_mono (by unfold bytesF; rw [HQ0.out, HQ1.out, HQ2.out]; simpa using own2a) (by omega), b_call hB hbw2a⟩
      | true =>
        go_wp2_with fail
        refine (rnput_any 2 b _ (by omega) HB.out.1 (by have := HB.out; omega)).mono ?_
        rintro e w2_2 ⟨p2, rfl, ownp2, hp2⟩
        have own2b := ownB_below own2a hp2
        go_wp2_with (at_builtin; refine appendB rfl _ _ rfl (w.heap.size + 1) _ _ rfl own2b _ (putL 2 b) rfl (ownB_read ownp2) ?c1 ?c2 ?_; (case c1 => simp [putL_length]); (case c2 => (have := hbw2a.size; have := hp2.size; simp only [World.size_alloc] at *; omega)); intro v23 w2_3 own2c hg2; have hbw2c := b_ownB (b_call hbw2a hp2) (by rw [World.size_alloc]; exact own2b) hg2; clear c0 c1 c2 c3; obtain ⟨c0, c1, c2, c3⟩ := cells4 hbw2c)
        go_ret
        exact ⟨_, rfl, ownB_mono (by unfold bytesF; rw [HQ0.out, HQ1.out, HQ2.out]; simpa using own2c) (by omega), b_call hB hbw2c⟩
end Go.Proofs.Ytdhkemnebppkhaa
