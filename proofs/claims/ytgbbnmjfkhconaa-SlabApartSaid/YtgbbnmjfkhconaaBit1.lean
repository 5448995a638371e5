/- Layer 2's rows of bits: what they are in memory; the contracts of Len, in, Has, Put, New. Conditions: at most 65536 bits. -/
import Derived.Test.YtgbbnmjfkhconaaBitL
import Derived.Test.YtgbbnmjfkhconaaGrowX
import Derived.Test.YtgbbnmjfkhconaaHeldE
import Derived.Laws.ShiftsVarLaws
import Derived.Test.YtgbbnmjfkhconaaProg
namespace Go.Proofs.Ytgbbnmjfkhconaa
open Go.RowKit
set_option linter.unusedVariables false
set_option linter.unusedSimpArgs false
attribute [local go_sem] over_cell over_frozen
def sp (b : Nat) : Value := .pointer (some ⟨b, 0, none⟩)
def wordC (x : Nat) : List Value := [.int .u64 (x : Int)]
def wrdE : Elt Nat where
  cells := wordC
  size := 1
  pos := by decide
  len := fun _ => rfl
  one := fun r u hu => by simp only [wordC, List.mem_singleton] at hu; subst hu; rfl
theorem wordT : IsRow Try.prog 40 43 1 8 (.int .u64 0) := ⟨Try.underlying40, by kernel_rfl, by rfl⟩
/-- A row of bits: its head in block s, its words in block g. -/
structure BitAt (w : World) (s g cap : Nat) (W : List Nat) (l : List Bool) : Prop where
  hd : Blk w s [.slice (some ⟨g, 0, none⟩) W.length cap, .int .i64 l.length]
  rw : Blk w g (wrdE.row W)
  ne : s ≠ g
  le : W.length ≤ cap
  cp : cap ≤ maxLen
  nb : l.length ≤ 65536
  bo : BitsOf W l
theorem bit_below {w w' : World} {s g cap : Nat} {W : List Nat} {l : List Bool} (h : BitAt w s g cap W l) (hb : Below w.heap.size w w') : BitAt w' s g cap W l := ⟨blk_below h.hd hb, blk_below h.rw hb, h.ne, h.le, h.cp, h.nb, h.bo⟩
theorem bit_gx {w w' : World} {s g cap : Nat} {W : List Nat} {l : List Bool} {X : Nat → Prop} (h : BitAt w s g cap W l) (hg : GrowX w w' X) (h1 : ¬ X s) (h2 : ¬ X g) : BitAt w' s g cap W l := ⟨blk_gx h.hd hg h1, blk_gx h.rw hg h2, h.ne, h.le, h.cp, h.nb, h.bo⟩
theorem bit_grown {w w' : World} {s g cap : Nat} {W : List Nat} {l : List Bool} {r : Option Nat} (h : BitAt w s g cap W l) (hg : w.grownBy w' r) (h1 : some s ≠ r) (h2 : some g ≠ r) : BitAt w' s g cap W l := ⟨blk_grown h.hd hg h1, blk_grown h.rw hg h2, h.ne, h.le, h.cp, h.nb, h.bo⟩
theorem words_at {w : World} {g : Nat} {W : List Nat} (h : Blk w g (wrdE.row W)) {j : Nat} (hj : j < W.length) : w.cell? ⟨g, j, none⟩ = some (.int .u64 ((W.getD j 0 : Nat) : Int)) := by
  have hl : j < (wrdE.row W).length := by rw [row_length]; show j < W.length * 1; omega
  have e := row_at wrdE W j hj 0 (by decide)
  rw [h.2.1 j hl]
  have e2 : (wrdE.row W)[j]? = some (.int .u64 ((W.getD j 0 : Nat) : Int)) := by
    have e3 : j * wrdE.size + 0 = j := by show j * 1 + 0 = j; omega
    rw [e3] at e
    rw [e, List.getD_eq_getElem?_getD, List.getElem?_eq_getElem hj]; rfl
  rw [List.getElem?_eq_getElem hl] at e2
  exact e2
def hasL (l : List Bool) (i : Int) : Bool := decide (0 ≤ i ∧ i < l.length) && l.getD i.toNat false
theorem blen_any {w : World} {s g cap : Nat} {W : List Nat} {l : List Bool} (h : BitAt w s g cap W l) : Calls Try.prog 97 #[sp s] w fun e w' => e = .returned (.int .i64 l.length) ∧ w = w' := by
  obtain ⟨h0, h1, hf⟩ := blk2 h.hd
  unfold sp
  clear h
  go_enter Try.func97, Try.ntmps97
  go_wp2_with fail
  go_ret
  exact ⟨rfl, rfl⟩
theorem blen_nil (w : World) : Calls Try.prog 97 #[.pointer none] w fun e w' => e = .returned (.int .i64 0) ∧ w = w' := by
  go_enter Try.func97, Try.ntmps97
  go_wp2_with fail
  go_ret
  exact ⟨rfl, rfl⟩
theorem bin_any {w : World} {p : Value} {n : Nat} (h : Calls Try.prog 97 #[p] w fun e w' => e = .returned (.int .i64 n) ∧ w = w') (i : Int) : Calls Try.prog 110 #[p, .int .i64 i] w fun e w' => e = .returned (.bool (decide (0 ≤ i ∧ i < n))) ∧ w = w' := by
  have HL := Lib.hid h
  clear h
  rcases (show i < 0 ∨ (0 ≤ i ∧ i < n) ∨ (0 ≤ i ∧ (n : Int) ≤ i) by omega) with q | ⟨q, q2⟩ | ⟨q, q2⟩
  · rw [decide_eq_false (by omega)]
    go_enter Try.func110, Try.ntmps110
    go_wp2_with fail
    go_ret
    exact ⟨rfl, rfl⟩
  · rw [decide_eq_true ⟨q, q2⟩]
    go_enter Try.func110, Try.ntmps110
    go_wp2_with fail
    refine HL.out.mono ?_
    rintro e w1 ⟨rfl, rfl⟩
    go_wp2_with fail
    go_ret
    exact ⟨rfl, rfl⟩
  · have q3 : ¬ (i < n) := by omega
    rw [decide_eq_false (by omega)]
    go_enter Try.func110, Try.ntmps110
    go_wp2_with fail
    refine HL.out.mono ?_
    rintro e w1 ⟨rfl, rfl⟩
    go_wp2_with fail
    go_ret
    exact ⟨by show Ending.returned (.bool (decide (i < n))) = _; rw [decide_eq_false (by omega)], rfl⟩
/-- The bit's test, as the walk spells it. -/
theorem bit_test (x t : Nat) (hx : x < 18446744073709551616) (ht : t < 64) : (bits .and .u64 ((x : Int) / 2 ^ t) 1 == 1) = x.testBit t := by
  have e1 : (x : Int) / 2 ^ t = ((x / 2 ^ t : Nat) : Int) := by push_cast; rfl
  have hlt : x / 2 ^ t < 18446744073709551616 := Nat.lt_of_le_of_lt (Nat.div_le_self _ _) hx
  rw [e1, show (1 : Int) = ((1 : Nat) : Int) from rfl, bits_and_u64_nat _ _ hlt (by decide), Nat.and_one_is_mod, Nat.testBit_eq_decide_div_mod_eq]
  by_cases q : x / 2 ^ t % 2 = 1
  · rw [q]; rfl
  · have : x / 2 ^ t % 2 = 0 := by omega
    rw [this]; rfl
theorem shl1_eq (t : Nat) (ht : t < 64) : IntKind.u64.wrap (2 ^ t) = ((2 ^ t : Nat) : Int) := by
  have := pow_lt64 ht
  rw [IntKind.wrap_u64]
  have e : (2 : Int) ^ t = ((2 ^ t : Nat) : Int) := by push_cast; rfl
  rw [e]
  generalize (2 ^ t : Nat) = p at *
  omega
theorem put_val (x t : Nat) (hx : x < 18446744073709551616) (ht : t < 64) : bits .or .u64 (x : Int) (IntKind.u64.wrap (2 ^ t)) = ((bsetW x t true : Nat) : Int) ∧ bits .andNot .u64 (x : Int) (IntKind.u64.wrap (2 ^ t)) = ((bsetW x t false : Nat) : Int) := by
  have hp := pow_lt64 ht
  rw [shl1_eq t ht]
  exact ⟨bits_or_u64_nat _ _ hx hp, u64_andNot_nat _ _ hx hp⟩
theorem row_words : ∀ W : List Nat, wrdE.row W = W.map (fun x : Nat => Value.int .u64 (x : Int))
  | [] => rfl
  | x :: l => by rw [row_cons, row_words l]; rfl
theorem bhas_any {w : World} {s g cap : Nat} {W : List Nat} {l : List Bool} (h : BitAt w s g cap W l) (i : Int) : Calls Try.prog 99 #[sp s, .int .i64 i] w fun e w' => e = .returned (.bool (hasL l i)) ∧ w = w' := by
  have HI := Lib.hid (bin_any (blen_any h) i)
  unfold sp at *
  by_cases hi : 0 ≤ i ∧ i < l.length
  case neg =>
    have e1 : hasL l i = false := by unfold hasL; rw [decide_eq_false hi]; rfl
    rw [decide_eq_false hi] at HI
    rw [e1]
    clear e1 h hi
    go_enter Try.func99, Try.ntmps99
    go_wp2_with fail
    refine HI.out.mono ?_
    rintro e w1 ⟨rfl, rfl⟩
    go_wp2_with fail
    go_ret
    exact ⟨rfl, rfl⟩
  case pos =>
    obtain ⟨k, rfl⟩ : ∃ k : Nat, i = k := ⟨i.toNat, by omega⟩
    have hk : k < l.length := by omega
    have hj : k / 64 < W.length := by rw [h.bo.len]; omega
    have e1 : hasL l k = (W.getD (k / 64) 0).testBit (k % 64) := by
      unfold hasL; rw [decide_eq_true hi, Bool.true_and, Int.toNat_natCast, h.bo.bt _ _ (Nat.mod_lt _ (by decide)), show 64 * (k / 64) + k % 64 = k by omega]
    rw [decide_eq_true hi] at HI
    rw [e1]
    obtain ⟨h0, h1, hf⟩ := blk2 h.hd
    have h2 := words_at h.rw hj
    have hx := h.bo.lt (k / 64)
    have nb := h.nb
    have q1 : (k : Int).tdiv 64 = ((k / 64 : Nat) : Int) := by rw [Int.tdiv_eq_ediv_of_nonneg (by omega)]; omega
    have q2 : (k : Int).tmod 64 = ((k % 64 : Nat) : Int) := by rw [Int.tmod_eq_emod_of_nonneg (by omega)]; omega
    have BT := Lib.hid (bit_test _ (k % 64) hx (Nat.mod_lt _ (by decide)))
    have t64 : k % 64 < 64 := Nat.mod_lt _ (by decide)
    have kb : k / 64 ≤ 1024 := by omega
    generalize W.getD (k / 64) 0 = x at *
    generalize k / 64 = j at *
    generalize k % 64 = t at *
    have j0 : (0 : Int) ≤ j := by omega
    have j1 : (j : Int) < W.length := by omega
    have j2 : (j : Int) ≤ 1024 := by omega
    have t0 : (0 : Int) ≤ t := by omega
    have t1 : (t : Int) < 64 := by omega
    clear e1 h hi hk kb t64 hx
    go_enter Try.func99, Try.ntmps99
    go_wp2_with fail
    refine HI.out.mono ?_
    rintro e w1 ⟨rfl, rfl⟩
    go_wp2_with fail
    go_ret
    exact ⟨by rw [BT.out]; rfl, rfl⟩
def putE (l : List Bool) (i : Int) : Int := if 0 ≤ i ∧ i < l.length then 0 else 3
def bputL (l : List Bool) (i : Int) (v : Bool) : List Bool := if 0 ≤ i ∧ i < l.length then l.set i.toNat v else l
theorem bput_nil (i : Int) (v : Bool) (w : World) : Calls Try.prog 91 #[.pointer none, .int .i64 i, .bool v] w fun e w' => e = .returned (.int .i64 2) ∧ w = w' := by
  go_enter Try.func91, Try.ntmps91
  go_wp2_with fail
  go_ret
  exact ⟨rfl, rfl⟩
theorem bput_out {w : World} {s g cap : Nat} {W : List Nat} {l : List Bool} (h : BitAt w s g cap W l) (i : Int) (v : Bool) (hi : ¬ (0 ≤ i ∧ i < l.length)) : Calls Try.prog 91 #[sp s, .int .i64 i, .bool v] w fun e w' => e = .returned (.int .i64 3) ∧ w = w' := by
  have HI := Lib.hid (bin_any (blen_any h) i)
  unfold sp at *
  rw [decide_eq_false hi] at HI
  clear h hi
  go_enter Try.func91, Try.ntmps91
  go_wp2_with fail
  refine HI.out.mono ?_
  rintro e w1 ⟨rfl, rfl⟩
  go_wp2_with fail
  go_ret
  exact ⟨rfl, rfl⟩
def PutBit (w : World) (s g cap j x : Nat) (W : List Nat) (l : List Bool) (e : Ending) (w' : World) : Prop := e = .returned (.int .i64 0) ∧ BitAt w' s g cap (W.set j x) l ∧ w.grownBy w' (some g)
theorem bput_in {w : World} {s g cap : Nat} {W : List Nat} {l : List Bool} (h : BitAt w s g cap W l) (k : Nat) (v : Bool) (hk : k < l.length) :
    Calls Try.prog 91 #[sp s, .int .i64 k, .bool v] w (PutBit w s g cap (k / 64) (bsetW (W.getD (k / 64) 0) (k % 64) v) W (l.set k v)) := by
  have HI := Lib.hid (bin_any (blen_any h) k)
  rw [decide_eq_true (by omega)] at HI
  unfold sp at *
  have hj : k / 64 < W.length := by rw [h.bo.len]; omega
  obtain ⟨h0, h1, hf⟩ := blk2 h.hd
  have h2 := words_at h.rw hj
  have hgf := h.rw.2.2
  have nb := h.nb
  have hlt := h.bo.lt (k / 64)
  have q1 : (k : Int).tdiv 64 = ((k / 64 : Nat) : Int) := by rw [Int.tdiv_eq_ediv_of_nonneg (by omega)]; omega
  have q2 : (k : Int).tmod 64 = ((k % 64 : Nat) : Int) := by rw [Int.tmod_eq_emod_of_nonneg (by omega)]; omega
  have t64 : k % 64 < 64 := Nat.mod_lt _ (by decide)
  have kb : k / 64 ≤ 1024 := by omega
  have DONE : Hid (∀ y : Int, y = ((bsetW (W.getD (k / 64) 0) (k % 64) v : Nat) : Int) → PutBit w s g cap (k / 64) (bsetW (W.getD (k / 64) 0) (k % 64) v) W (l.set k v) (.returned (.int .i64 0)) (w.setCell ⟨g, k / 64, none⟩ (.int .u64 y)).drew) := by
    intro y hy
    subst hy
    refine ⟨rfl, ⟨?_, ?_, h.ne, by simpa using h.le, h.cp, by simpa using h.nb, bits_put h.bo hk v⟩, gb_drew (gb_set (gb_refl _ _) _ _ _)⟩
    · rw [List.length_set, List.length_set]
      exact blk_other h.hd (p := ⟨g, k / 64, none⟩) (fun e => h.ne e.symm) (.int .u64 ((bsetW (W.getD (k / 64) 0) (k % 64) v : Nat) : Int))
    · have := blk_set h.rw (k / 64) (.int .u64 ((bsetW (W.getD (k / 64) 0) (k % 64) v : Nat) : Int))
      rw [row_words, ← List.map_set, ← row_words] at this
      exact this
  obtain ⟨v1, v0⟩ := put_val (W.getD (k / 64) 0) (k % 64) hlt t64
  have V1 := Lib.hid v1
  have V0 := Lib.hid v0
  clear v1 v0
  cases v
  all_goals
    generalize W.getD (k / 64) 0 = x at *
    generalize k / 64 = j at *
    generalize k % 64 = t at *
    have j0 : (0 : Int) ≤ j := by omega
    have j1 : (j : Int) < W.length := by omega
    have j2 : (j : Int) ≤ 1024 := by omega
    have t0 : (0 : Int) ≤ t := by omega
    have t1 : (t : Int) < 64 := by omega
    clear h hk kb t64 hlt
    go_enter Try.func91, Try.ntmps91
    go_wp2_with fail
    refine HI.out.mono ?_
    rintro e w1 ⟨rfl, rfl⟩
    go_wp2_with fail
    go_region
    all_goals
      go_wp2_with fail
      go_ret
      first | exact DONE.out _ V0.out | exact DONE.out _ V1.out
theorem bput_any {w : World} {s g cap : Nat} {W : List Nat} {l : List Bool} (h : BitAt w s g cap W l) (i : Int) (v : Bool) :
    Calls Try.prog 91 #[sp s, .int .i64 i, .bool v] w fun e w' => ∃ W', e = .returned (.int .i64 (putE l i)) ∧ BitAt w' s g cap W' (bputL l i v) ∧ w.grownBy w' (some g) := by
  by_cases hi : 0 ≤ i ∧ i < l.length
  · obtain ⟨k, rfl⟩ : ∃ k : Nat, i = k := ⟨i.toNat, by omega⟩
    unfold putE bputL
    rw [if_pos hi, if_pos hi, Int.toNat_natCast]
    refine (bput_in h k v (by omega)).mono ?_
    rintro e w' ⟨rfl, hb, hg⟩
    exact ⟨_, rfl, hb, hg⟩
  · unfold putE bputL
    rw [if_neg hi, if_neg hi]
    refine (bput_out h i v hi).mono ?_
    rintro e w' ⟨rfl, rfl⟩
    exact ⟨W, rfl, h, gb_refl _ _⟩
/-- How many bits a new one has. -/
def bitN (n : Int) : Nat := if n < 0 then 0 else if 65536 < n then 65536 else n.toNat
theorem bitN_le (n : Int) : bitN n ≤ 65536 := by unfold bitN; split; (omega); (split <;> omega)
/-- One that the call has made: both blocks are new. -/
def NewBit (w : World) (l : List Bool) (e : Ending) (w' : World) : Prop := ∃ s g cap W, e = .returned (sp s) ∧ BitAt w' s g cap W l ∧ w.heap.size ≤ s ∧ w.heap.size ≤ g ∧ Below w.heap.size w w'
def mkW (m : Nat) : Array Value := madeCells (Value.int .u64 0).cells (m * wrdE.size)
set_option maxRecDepth 100000 in
theorem bnew_any (n : Int) (w : World) : Calls Try.prog 101 #[.int .i64 n] w (NewBit w (List.replicate (bitN n) false)) := by
  have key : ∀ (z : Int) (m : Nat), z = m → m ≤ 1024 → ∀ w : World, (Instr.makeSlice 40 (.int .i64 z) (.int .i64 z)).run Try.prog w = .ok (.slice (some ⟨w.heap.size, 0, none⟩) m m) (w.alloc (.cells (mkW m) 43)) := fun z m hz hm w => by subst hz; exact run_makeR (c := wrdE) wordT _ _ m (by omega) (by omega) w
  have hfin : ∀ m : Nat, m ≤ 65536 → ∀ (e : Ending) (z : Int), z = m → e = Ending.returned (.pointer (some ⟨w.heap.size + 1, 0, none⟩)) → NewBit w (List.replicate m false) e ((w.alloc (.cells (mkW ((m + 63) / 64)) 43)).alloc (.cells #[.slice (some ⟨w.heap.size, 0, none⟩) ((m + 63) / 64) ((m + 63) / 64), .int .i64 z] 156)) := by
    intro m hm e z hz he
    subst hz
    refine ⟨w.heap.size + 1, w.heap.size, (m + 63) / 64, List.replicate ((m + 63) / 64) 0, he, ⟨?_, blk_alloc (blk_make w 0 rfl _) _, by omega, by simp, by unfold maxLen; omega, by simpa using hm, bits_new m⟩, by omega, by omega, b_alloc (b_alloc (Below.refl _ _) _) _⟩
    have q := blk_new (w.alloc (.cells (mkW ((m + 63) / 64)) 43)) #[.slice (some ⟨w.heap.size, 0, none⟩) ((m + 63) / 64) ((m + 63) / 64), .int .i64 (m : Int)] 156
    rw [List.length_replicate, List.length_replicate]
    simpa using q
  rcases (show n < 0 ∨ (0 ≤ n ∧ 65536 < n) ∨ ∃ m : Nat, n = m ∧ m ≤ 65536 by
    rcases (show n < 0 ∨ (0 ≤ n ∧ 65536 < n) ∨ (0 ≤ n ∧ n ≤ 65536) by omega) with q | q | q
    · exact Or.inl q
    · exact Or.inr (Or.inl q)
    · exact Or.inr (Or.inr ⟨n.toNat, by omega, by omega⟩)) with q | ⟨q1, q2⟩ | ⟨m, rfl, hm⟩
  · rw [show bitN n = 0 by unfold bitN; rw [if_pos q]]
    have K := key 0 0 rfl (by omega)
    have F := Lib.hid (hfin 0 (by omega))
    clear key hfin
    go_enter Try.func101, Try.ntmps101
    go_wp2_with fail
    go_ret
    exact F.out _ _ rfl rfl
  · rw [show bitN n = 65536 by unfold bitN; rw [if_neg (by omega), if_pos q2]]
    have K := key 1024 1024 rfl (by omega)
    have F := Lib.hid (hfin 65536 (by omega))
    clear key hfin
    generalize List.replicate 65536 false = L0 at *
    go_enter Try.func101, Try.ntmps101
    go_wp2_with fail
    go_ret
    exact F.out _ _ rfl rfl
  · rw [show bitN (m : Int) = m by unfold bitN; rw [if_neg (by omega), if_neg (by omega)]; omega]
    have F := Lib.hid (hfin m hm)
    obtain ⟨M, hM⟩ : ∃ M, M = (m + 63) / 64 := ⟨_, rfl⟩
    rw [← hM] at F
    have q2 : ((m : Int) + 63).tdiv 64 = (M : Int) := by rw [Int.tdiv_eq_ediv_of_nonneg (by omega)]; omega
    have q3 : ((m : Int) + 64 - 1) / 64 = (M : Int) := by omega
    have K := key M M rfl (by omega)
    have HM := Lib.hid hM
    clear hM
    have hm1 : (m : Int) ≤ 65536 := by omega
    have hm0 : (0 : Int) ≤ m := by omega
    clear key hfin
    go_enter Try.func101, Try.ntmps101
    go_wp2_with fail

    go_ret
    exact F.out _ _ rfl rfl
end Go.Proofs.Ytgbbnmjfkhconaa
