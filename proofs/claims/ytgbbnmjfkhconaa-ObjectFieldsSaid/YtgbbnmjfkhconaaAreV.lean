/- Layer 3's views: what they are in memory; inside, right, Get, Need, Set. Conditions: the view's arena stands; few calls. -/
import Derived.Test.YtgbbnmjfkhconaaAre3
import Derived.Test.YtgbbnmjfkhconaaGrowX
import Derived.Test.YtgbbnmjfkhconaaHeldF
namespace Go.Proofs.Ytgbbnmjfkhconaa
open Go.RowKit
set_option linter.unusedVariables false
set_option linter.unusedSimpArgs false
attribute [local go_sem] over_cell over_frozen
def VIEWT : TypeId := 120
def TRPT : TypeId := 148
def U64T : TypeId := 43
def I64T : TypeId := 3
def u64E : Elt Int where
  cells := fun x => [.int .u64 x]
  size := 1
  pos := by decide
  len := fun _ => rfl
  one := fun r u hu => by
    simp only [List.mem_cons, List.not_mem_nil, or_false] at hu
    rw [hu]; rfl
def i64E : Elt Int where
  cells := fun x => [.int .i64 x]
  size := 1
  pos := by decide
  len := fun _ => rfl
  one := fun r u hu => by
    simp only [List.mem_cons, List.not_mem_nil, or_false] at hu
    rw [hu]; rfl
theorem rowU64 : IsRow Try.prog 40 U64T 1 8 (.int .u64 0) := ⟨Try.underlying40, by kernel_rfl, by rfl⟩
theorem rowI64 : IsRow Try.prog 118 I64T 1 8 (.int .i64 0) := ⟨Try.underlying118, by kernel_rfl, by rfl⟩
/-- A view at block vb. -/
structure ViewAt (w : World) (vb : Nat) (p : Value) (n : Int) (ov wv : Value) (B : Nat) (O W : List Int) : Prop where
  bk : Blk w vb [p, .int .i64 n, ov, wv]
  ty : tyB w vb = some VIEWT
  o : OwnR u64E U64T w B ov O
  wh : OwnR i64E I64T w B wv W
def Trapped (x : Int) (e : Ending) : Prop := e = .panicked [{ v := .iface TRPT (.agg #[.int .i64 x]), recovered := false }]
theorem vin_yes {w : World} {vb b : Nat} {n : Int} {ov wv : Value} (h : Blk w vb [tp b, .int .i64 n, ov, wv]) : Calls Try.prog 77 #[tp vb] w fun e w' => e = .returned (.bool true) ∧ w = w' := by
  obtain ⟨c0, c1, c2, c3, cf⟩ := blk4 h
  unfold tp at *
  clear h
  go_enter Try.func77, Try.ntmps77
  go_wp2_with fail
  go_ret
  exact ⟨rfl, rfl⟩
theorem vin_out {w : World} {vb : Nat} {u1 u2 u3 : Value} (h : Blk w vb [.pointer none, u1, u2, u3]) : Calls Try.prog 77 #[tp vb] w fun e w' => e = .returned (.bool false) ∧ w = w' := by
  obtain ⟨c0, c1, c2, c3, cf⟩ := blk4 h
  unfold tp at *
  clear h
  go_enter Try.func77, Try.ntmps77
  go_wp2_with fail
  go_ret
  exact ⟨rfl, rfl⟩
theorem vin_nil (w : World) : Calls Try.prog 77 #[.pointer none] w fun e w' => e = .returned (.bool false) ∧ w = w' := by
  go_enter Try.func77, Try.ntmps77
  go_wp2_with fail
  go_ret
  exact ⟨rfl, rfl⟩
theorem vright_ok {w : World} {vb : Nat} {p : Value} {n : Int} {ov wv : Value} (h : Blk w vb [p, .int .i64 n, ov, wv]) (h0 : 0 ≤ n) (h1 : n ≤ 1000000) : Calls Try.prog 78 #[tp vb, .int .i64 0] w fun e w' => e = .returned (.tuple #[]) ∧ w' = w.setCell ⟨vb, 1, none⟩ (.int .i64 (n + 1)) := by
  obtain ⟨c0, c1, c2, c3, cf⟩ := blk4 h
  have hlt := h.1
  unfold tp at *
  clear h
  go_enter Try.func78, Try.ntmps78
  go_wp2_with fail
  exact ⟨rfl, .tuple #[], by simp [results, Try.results78, go_sem], rfl, rfl⟩
theorem vright_bad {w : World} (vb : Nat) (x : Int) (hx : x ≠ 0) : Calls Try.prog 78 #[tp vb, .int .i64 x] w fun e w' => Trapped x e ∧ w = w' := by
  have t : (x == 0) = false := by rw [beq_eq_false_iff_ne]; exact hx
  unfold tp at *
  go_enter Try.func78, Try.ntmps78
  go_wp2_with fail
  exact ⟨rfl, rfl, rfl⟩
theorem vget_ok {w : World} {vb b g cap B : Nat} {n : Int} {ov wv : Value} {O W L : List Int} (H : AreAt w b g cap L) (V : ViewAt w vb (tp b) n ov wv B O W) (h0 : 0 ≤ n) (h1 : n ≤ 1000000) (k : Int) (hk : wordE L.length k = 0) : Calls Try.prog 41 #[tp vb, .int .i64 k] w fun e w' => e = .returned (.int .u64 (getW L k.toNat)) ∧ w' = w.setCell ⟨vb, 1, none⟩ (.int .i64 (n + 1)) := by
  have hin := Lib.hid (vin_yes V.bk)
  have hw := aword_any H k
  rw [hk, if_pos rfl] at hw
  have HW := Lib.hid hw
  have HR := Lib.hid (vright_ok V.bk h0 h1)
  obtain ⟨c0, c1, c2, c3, cf⟩ := blk4 V.bk
  unfold tp at *
  clear H V hk h0 h1 hw
  go_enter Try.func41, Try.ntmps41
  go_wp2_with fail
  refine hin.out.mono ?_
  rintro e w1 ⟨rfl, rfl⟩
  go_wp2_with fail
  refine HW.out.mono ?_
  rintro e w1 ⟨rfl, rfl⟩
  go_wp2_with fail
  refine HR.out.mono ?_
  rintro e w1 ⟨rfl, rfl⟩
  go_wp2_with fail
  go_ret
  exact ⟨rfl, rfl⟩
theorem vget_bad {w : World} {vb b g cap B : Nat} {n : Int} {ov wv : Value} {O W L : List Int} (H : AreAt w b g cap L) (V : ViewAt w vb (tp b) n ov wv B O W) (k : Int) (hk : wordE L.length k ≠ 0) : Calls Try.prog 41 #[tp vb, .int .i64 k] w fun e w' => Trapped (wordE L.length k) e ∧ w = w' := by
  have hin := Lib.hid (vin_yes V.bk)
  have hw := aword_any H k
  rw [if_neg hk] at hw
  have HW := Lib.hid hw
  have HR := Lib.hid (vright_bad (w := w) vb _ hk)
  obtain ⟨c0, c1, c2, c3, cf⟩ := blk4 V.bk
  unfold tp at *
  generalize wordE L.length k = x at *
  clear H V hk hw
  go_enter Try.func41, Try.ntmps41
  go_wp2_with fail
  refine hin.out.mono ?_
  rintro e w1 ⟨rfl, rfl⟩
  go_wp2_with fail
  refine HW.out.mono ?_
  rintro e w1 ⟨rfl, rfl⟩
  go_wp2_with fail
  refine HR.out.mono ?_
  rintro e w1 ⟨rfl, rfl⟩
  go_wp2_with fail
  exact ⟨rfl, rfl, rfl⟩
theorem vget_nil (k : Int) (w : World) : Calls Try.prog 41 #[.pointer none, .int .i64 k] w fun e w' => e = .returned (.int .u64 0) ∧ w = w' := by
  go_enter Try.func41, Try.ntmps41
  go_wp2_with fail
  refine (vin_nil _).mono ?_
  rintro e w1 ⟨rfl, rfl⟩
  go_wp2_with fail
  go_ret
  exact ⟨rfl, rfl⟩
theorem vget_out {w : World} {vb : Nat} {u1 u2 u3 : Value} (h : Blk w vb [.pointer none, u1, u2, u3]) (k : Int) : Calls Try.prog 41 #[tp vb, .int .i64 k] w fun e w' => e = .returned (.int .u64 0) ∧ w = w' := by
  have hin := Lib.hid (vin_out h)
  unfold tp at *
  clear h
  go_enter Try.func41, Try.ntmps41
  go_wp2_with fail
  refine hin.out.mono ?_
  rintro e w1 ⟨rfl, rfl⟩
  go_wp2_with fail
  go_ret
  exact ⟨rfl, rfl⟩
theorem vneed_ok {w : World} {vb b : Nat} {n : Int} {ov wv : Value} (V : Blk w vb [tp b, .int .i64 n, ov, wv]) (h0 : 0 ≤ n) (h1 : n ≤ 1000000) : Calls Try.prog 39 #[tp vb, .bool true] w fun e w' => e = .returned (.tuple #[]) ∧ w' = w.setCell ⟨vb, 1, none⟩ (.int .i64 (n + 1)) := by
  have hin := Lib.hid (vin_yes V)
  have HR := Lib.hid (vright_ok V h0 h1)
  unfold tp at *
  clear V h0 h1
  go_enter Try.func39, Try.ntmps39
  go_wp2_with fail
  refine hin.out.mono ?_
  rintro e w1 ⟨rfl, rfl⟩
  go_wp2_with fail
  refine HR.out.mono ?_
  rintro e w1 ⟨rfl, rfl⟩
  go_wp2_with fail
  exact ⟨rfl, .tuple #[], by simp [results, Try.results39, go_sem], rfl, rfl⟩
theorem vneed_bad {w : World} {vb b : Nat} {n : Int} {ov wv : Value} (V : Blk w vb [tp b, .int .i64 n, ov, wv]) : Calls Try.prog 39 #[tp vb, .bool false] w fun e w' => Trapped 8 e ∧ w = w' := by
  have hin := Lib.hid (vin_yes V)
  have HR := Lib.hid (vright_bad (w := w) vb 8 (by decide))
  unfold tp at *
  clear V
  go_enter Try.func39, Try.ntmps39
  go_wp2_with fail
  refine hin.out.mono ?_
  rintro e w1 ⟨rfl, rfl⟩
  go_wp2_with fail
  refine HR.out.mono ?_
  rintro e w1 ⟨rfl, rfl⟩
  go_wp2_with fail
  exact ⟨rfl, rfl, rfl⟩
theorem vneed_out {w : World} {vb : Nat} {u1 u2 u3 : Value} (h : Blk w vb [.pointer none, u1, u2, u3]) (x : Bool) : Calls Try.prog 39 #[tp vb, .bool x] w fun e w' => e = .returned (.tuple #[]) ∧ w = w' := by
  have hin := Lib.hid (vin_out h)
  unfold tp at *
  clear h
  go_enter Try.func39, Try.ntmps39
  go_wp2_with fail
  refine hin.out.mono ?_
  rintro e w1 ⟨rfl, rfl⟩
  go_wp2_with fail
  exact ⟨rfl, .tuple #[], by simp [results, Try.results39, go_sem], rfl, rfl⟩
theorem vset_out {w : World} {vb : Nat} {u1 u2 u3 : Value} (h : Blk w vb [.pointer none, u1, u2, u3]) (k x : Int) : Calls Try.prog 38 #[tp vb, .int .i64 k, .int .u64 x] w fun e w' => e = .returned (.tuple #[]) ∧ w = w' := by
  have hin := Lib.hid (vin_out h)
  unfold tp at *
  clear h
  go_enter Try.func38, Try.ntmps38
  go_wp2_with fail
  refine hin.out.mono ?_
  rintro e w1 ⟨rfl, rfl⟩
  go_wp2_with fail
  exact ⟨rfl, .tuple #[], by simp [results, Try.results38, go_sem], rfl, rfl⟩
theorem vset_bad {w : World} {vb b g cap B : Nat} {n : Int} {ov wv : Value} {O W L : List Int} (H : AreAt w b g cap L) (V : ViewAt w vb (tp b) n ov wv B O W) (k x : Int) (hk : wordE L.length k ≠ 0) : Calls Try.prog 38 #[tp vb, .int .i64 k, .int .u64 x] w fun e w' => Trapped (wordE L.length k) e ∧ w = w' := by
  have hin := Lib.hid (vin_yes V.bk)
  have hw := aword_any H k
  rw [if_neg hk] at hw
  have HW := Lib.hid hw
  have HR := Lib.hid (vright_bad (w := w) vb _ hk)
  obtain ⟨c0, c1, c2, c3, cf⟩ := blk4 V.bk
  have t : (wordE L.length k == 0) = false := by rw [beq_eq_false_iff_ne]; exact hk
  unfold tp at *
  generalize wordE L.length k = x at *
  clear H V hk hw
  go_enter Try.func38, Try.ntmps38
  go_wp2_with fail
  refine hin.out.mono ?_
  rintro e w1 ⟨rfl, rfl⟩
  go_wp2_with fail
  refine HW.out.mono ?_
  rintro e w1 ⟨rfl, rfl⟩
  go_wp2_with fail
  refine HR.out.mono ?_
  rintro e w1 ⟨rfl, rfl⟩
  go_wp2_with fail
  exact ⟨rfl, rfl, rfl⟩
end Go.Proofs.Ytgbbnmjfkhconaa
