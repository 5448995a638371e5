/- Layer 24: an instruction read: ours and the document's. Conditions: the slice reads as bytes, of fewer than 2^38. -/
import Derived.Test.YtdhkemnebppkhaaInstrWake
namespace Go.Proofs.Ytdhkemnebppkhaa
open Go.RowKit
set_option linter.unusedVariables false
set_option linter.unusedSimpArgs false
attribute [local go_sem] over_cell over_frozen
/-- What 's[i:j]' reads as. -/
theorem readB_cut {w : World} {b o n cap : Nat} {xs : List Int} (h : ReadB w (.slice (some ⟨b, o, none⟩) n cap) xs) (i j : Nat) (hij : i < j) (hj : j ≤ xs.length) : ReadB w (.slice (some ⟨b, o + i, none⟩) (j - i) (cap - i)) ((xs.drop i).take (j - i)) := by
  obtain ⟨b', o', cap', hv, h1, h2, h3, h4⟩ := readB_pos h (by omega)
  cases hv
  have e : ((xs.drop i).take (j - i)).length = j - i := by simp; omega
  have := readB_mk (w := w) (b := b) (o := o + i) (cap := cap - i) (xs := (xs.drop i).take (j - i)) (by omega) (by omega) h3 (fun k hk => by
    rw [e] at hk
    rw [Nat.add_assoc, h4 (i + k) (by omega)]
    simp only [List.getD_eq_getElem?_getD, List.getElem?_take_of_lt hk, List.getElem?_drop])
  rw [e] at this
  exact this
def opR (xs : List Int) : Int := xs.getD 0 0
def szR (op : Int) : Nat := 1 + 2 * (shN op).toNat + (if shX op = true then 8 else 0)
def okR (xs : List Int) : Bool := decide (0 < xs.length) && shOk (opR xs) && decide (szR (opR xs) ≤ xs.length)
def cutL (xs : List Int) (i j : Nat) : List Int := (xs.drop i).take (j - i)
def xR (xs : List Int) : Int := if shX (opR xs) = true then getL ((cutL xs 1 9).take 8) else 0
def aR (xs : List Int) : Int := if 0 < shN (opR xs) then getL ((cutL xs 1 3).take 8) else 0
def bR (xs : List Int) : Int := if 1 < shN (opR xs) then getL ((cutL xs 3 5).take 8) else 0
def instV (op x a b : Int) : Value := .agg #[.int .i64 op, .int .u64 x, .int .i64 a, .int .i64 b]
theorem kinds (op : Int) : (shOk op = false ∧ shN op = 0 ∧ shX op = false) ∨ (shOk op = true ∧ shN op = 0 ∧ shX op = false) ∨ (shOk op = true ∧ shN op = 0 ∧ shX op = true) ∨ (shOk op = true ∧ shN op = 1 ∧ shX op = false) ∨ (shOk op = true ∧ shN op = 2 ∧ shX op = false) := by
  have h := kind_le op
  unfold shOk shN shX
  generalize kindOf op = n at h
  match n, h with
  | 0, _ => exact Or.inr (Or.inl ⟨rfl, rfl, rfl⟩)
  | 1, _ => exact Or.inr (Or.inr (Or.inl ⟨rfl, rfl, rfl⟩))
  | 2, _ => exact Or.inr (Or.inr (Or.inr (Or.inl ⟨rfl, rfl, rfl⟩)))
  | 3, _ => exact Or.inr (Or.inr (Or.inr (Or.inr ⟨rfl, rfl, rfl⟩)))
  | 4, _ => exact Or.inl ⟨rfl, rfl, rfl⟩
theorem getL_bd16 {xs : List Int} (hb : IsBytes xs) {i : Nat} {z : Int} (h : z = getL ((cutL xs i (i + 2)).take 8)) : 0 ≤ z ∧ z ≤ 65535 := by
  obtain ⟨g1, g2⟩ := getL_lt _ (isBytes_take (isBytes_take (isBytes_drop hb i) (i + 2 - i)) 8)
  have hl : ((cutL xs i (i + 2)).take 8).length ≤ 2 := by unfold cutL; simp; omega
  have h2 : (256 : Int) ^ ((cutL xs i (i + 2)).take 8).length ≤ 65536 := by
    have e := Int.ofNat_le.2 (Nat.pow_le_pow_right (show 0 < 256 by decide) hl)
    rw [Int.natCast_pow, Int.natCast_pow] at e
    exact e
  rw [h]
  exact ⟨g1, by unfold cutL at h2 ⊢; omega⟩
theorem iread_empty (u : Value) (w : World) (h : ReadB w u []) : Calls Try.prog 20 #[u] w fun e w' => e = .returned (.tuple #[instV 0 0 0 0, .int .i64 0, .int .i64 4]) ∧ Below w.heap.size w w' := by
  obtain ⟨a, cap, rfl⟩ := readB_len h
  clear h
  rw [show ([] : List Int).length = 0 from rfl]
  go_enter Try.func20, Try.ntmps20
  go_wp2_with fail
  exact bodyPost_ret (v := .tuple #[instV 0 0 0 0, .int .i64 0, .int .i64 4]) (by simp [results, Try.results20, go_sem, instV]) rfl ⟨rfl, b_alloc (Below.refl _ _) _⟩
theorem iread_none (u : Value) (xs : List Int) (w : World) (h : ReadB w u xs) (hb : IsBytes xs) (hl : xs.length ≤ 274877906944) (h0 : 0 < xs.length) (hok : okR xs = false) : Calls Try.prog 20 #[u] w fun e w' => e = .returned (.tuple #[instV 0 0 0 0, .int .i64 0, .int .i64 4]) ∧ Below w.heap.size w w' := by
  obtain ⟨b, o, cap, rfl, h1, h2, h3, h4⟩ := readB_pos h h0
  have hc := h4 0 h0
  obtain ⟨x1, x2⟩ := isBytes_at hb 0 h0
  rw [Nat.add_zero] at hc
  obtain ⟨op, hop⟩ : ∃ op, op = xs.getD 0 0 := ⟨_, rfl⟩
  rw [← hop] at hc x1 x2
  have t0 : ((xs.length : Int) == 0) = false := beq_false_of_ne (by omega)
  have p0 : (0 : Int) < xs.length := by omega
  have hcv : IntKind.i64.wrap op = op := by rw [IntWalk.i64_in]; omega
  have HO := Lib.hid hok; have HP := Lib.hid hop; have HL := Lib.hid hl
  clear h h4 hok hop hb hl
  go_enter Try.func20, Try.ntmps20
  go_wp2_with fail
  refine (shape_any _ _).mono ?_
  rintro e w1 ⟨rfl, rfl⟩
  rcases kinds op with ⟨k1, k2, k3⟩ | ⟨k1, k2, k3⟩ | ⟨k1, k2, k3⟩ | ⟨k1, k2, k3⟩ | ⟨k1, k2, k3⟩
  · rw [k1, k2, k3]
    clear k1 k2 k3
    go_wp2_with fail
    exact bodyPost_ret (v := .tuple #[instV 0 0 0 0, .int .i64 0, .int .i64 4]) (by simp [results, Try.results20, go_sem, instV]) rfl ⟨rfl, b_alloc (Below.refl _ _) _⟩
  · have hs : szR op = 1 := by unfold szR; rw [k2, k3]; rfl
    have t1 : decide ((xs.length : Int) < 1) = true := by
      have e := HO.out
      unfold okR opR at e
      rw [← HP.out, hs, k1, decide_eq_true h0] at e
      rw [decide_eq_true_iff]
      have e2 : ¬ (1 ≤ xs.length) := of_decide_eq_false (by simpa using e)
      omega
    rw [k1, k2, k3]
    clear k1 k2 k3 hs
    go_wp2_with fail
    exact bodyPost_ret (v := .tuple #[instV 0 0 0 0, .int .i64 0, .int .i64 4]) (by simp [results, Try.results20, go_sem, instV]) rfl ⟨rfl, b_alloc (Below.refl _ _) _⟩
  · have hs : szR op = 9 := by unfold szR; rw [k2, k3]; rfl
    have t1 : decide ((xs.length : Int) < 9) = true := by
      have e := HO.out
      unfold okR opR at e
      rw [← HP.out, hs, k1, decide_eq_true h0] at e
      rw [decide_eq_true_iff]
      have e2 : ¬ (9 ≤ xs.length) := of_decide_eq_false (by simpa using e)
      omega
    rw [k1, k2, k3]
    clear k1 k2 k3 hs
    go_wp2_with fail
    exact bodyPost_ret (v := .tuple #[instV 0 0 0 0, .int .i64 0, .int .i64 4]) (by simp [results, Try.results20, go_sem, instV]) rfl ⟨rfl, b_alloc (Below.refl _ _) _⟩
  · have hs : szR op = 3 := by unfold szR; rw [k2, k3]; rfl
    have t1 : decide ((xs.length : Int) < 3) = true := by
      have e := HO.out
      unfold okR opR at e
      rw [← HP.out, hs, k1, decide_eq_true h0] at e
      rw [decide_eq_true_iff]
      have e2 : ¬ (3 ≤ xs.length) := of_decide_eq_false (by simpa using e)
      omega
    rw [k1, k2, k3]
    clear k1 k2 k3 hs
    go_wp2_with fail
    exact bodyPost_ret (v := .tuple #[instV 0 0 0 0, .int .i64 0, .int .i64 4]) (by simp [results, Try.results20, go_sem, instV]) rfl ⟨rfl, b_alloc (Below.refl _ _) _⟩
  · have hs : szR op = 5 := by unfold szR; rw [k2, k3]; rfl
    have t1 : decide ((xs.length : Int) < 5) = true := by
      have e := HO.out
      unfold okR opR at e
      rw [← HP.out, hs, k1, decide_eq_true h0] at e
      rw [decide_eq_true_iff]
      have e2 : ¬ (5 ≤ xs.length) := of_decide_eq_false (by simpa using e)
      omega
    rw [k1, k2, k3]
    clear k1 k2 k3 hs
    go_wp2_with fail
    exact bodyPost_ret (v := .tuple #[instV 0 0 0 0, .int .i64 0, .int .i64 4]) (by simp [results, Try.results20, go_sem, instV]) rfl ⟨rfl, b_alloc (Below.refl _ _) _⟩
theorem iread_ok (u : Value) (xs : List Int) (w : World) (h : ReadB w u xs) (hb : IsBytes xs) (hl : xs.length ≤ 274877906944) (hok : okR xs = true) : Calls Try.prog 20 #[u] w fun e w' => e = .returned (.tuple #[instV (opR xs) (xR xs) (aR xs) (bR xs), .int .i64 (szR (opR xs)), .int .i64 0]) ∧ Below w.heap.size w w' := by
  have h0 : 0 < xs.length := by
    unfold okR at hok; rw [Bool.and_eq_true, Bool.and_eq_true, decide_eq_true_iff] at hok; exact hok.1.1
  have hsz : szR (opR xs) ≤ xs.length := by
    unfold okR at hok; rw [Bool.and_eq_true, decide_eq_true_iff] at hok; exact hok.2
  have hsh : shOk (opR xs) = true := by
    unfold okR at hok; rw [Bool.and_eq_true, Bool.and_eq_true] at hok; exact hok.1.2
  have HRD := Lib.hid h
  obtain ⟨b, o, cap, rfl, h1, h2, h3, h4⟩ := readB_pos h h0
  have hc := h4 0 h0
  obtain ⟨x1, x2⟩ := isBytes_at hb 0 h0
  rw [Nat.add_zero] at hc
  have EX : Hid (xR xs = if shX (opR xs) = true then getL ((cutL xs 1 9).take 8) else 0) := rfl
  have EA : Hid (aR xs = if 0 < shN (opR xs) then getL ((cutL xs 1 3).take 8) else 0) := rfl
  have EB : Hid (bR xs = if 1 < shN (opR xs) then getL ((cutL xs 3 5).take 8) else 0) := rfl
  obtain ⟨op, hop⟩ : ∃ op, op = opR xs := ⟨_, rfl⟩
  rw [show xs.getD 0 0 = op from hop.symm] at hc x1 x2
  rw [← hop] at hsz hsh EX EA EB ⊢
  have t0 : ((xs.length : Int) == 0) = false := beq_false_of_ne (by omega)
  have p0 : (0 : Int) < xs.length := by omega
  have hcv : IntKind.i64.wrap op = op := by rw [IntWalk.i64_in]; omega
  have HP := Lib.hid hop; have HL := Lib.hid hl; have HBY := Lib.hid hb; have HSZ := Lib.hid hsz
  clear h h4 hok hop hb hl hsz
  go_enter Try.func20, Try.ntmps20
  go_wp2_with fail
  refine (shape_any _ _).mono ?_
  rintro e w1 ⟨rfl, rfl⟩
  rcases kinds op with ⟨k1, k2, k3⟩ | ⟨k1, k2, k3⟩ | ⟨k1, k2, k3⟩ | ⟨k1, k2, k3⟩ | ⟨k1, k2, k3⟩
  · rw [hsh] at k1; cases k1
  · have hs : szR op = 1 := by unfold szR; rw [k2, k3]; rfl
    have l1 : 1 ≤ xs.length := hs ▸ HSZ.out
    have l1i : (1 : Int) ≤ xs.length := by omega
    have t1 : decide ((xs.length : Int) < 1) = false := by rw [decide_eq_false_iff_not]; omega
    have c1 : 1 ≤ cap := by omega
    rw [k1, k2, k3]
    have K2 := Lib.hid k2; have K3 := Lib.hid k3; have KS := Lib.hid hs
    clear k1 k2 k3 hs
    go_wp2_with fail
    exact bodyPost_ret (v := .tuple #[instV op (xR xs) (aR xs) (bR xs), .int .i64 (szR op), .int .i64 0]) (by rw [EX.out, EA.out, EB.out, K2.out, K3.out, KS.out]; simp [results, Try.results20, go_sem, instV]) rfl ⟨rfl, by (repeat' (first | exact Below.refl _ _ | assumption | refine b_alloc ?_ _ | refine b_over ?_ _ | refine b_drew ?_ | refine b_call ?_ (by assumption)))⟩
  · have hs : szR op = 9 := by unfold szR; rw [k2, k3]; rfl
    have l1 : 9 ≤ xs.length := hs ▸ HSZ.out
    have l1i : (9 : Int) ≤ xs.length := by omega
    have t1 : decide ((xs.length : Int) < 9) = false := by rw [decide_eq_false_iff_not]; omega
    have c1 : 9 ≤ cap := by omega
    rw [k1, k2, k3]
    have K2 := Lib.hid k2; have K3 := Lib.hid k3; have KS := Lib.hid hs
    clear k1 k2 k3 hs
    go_wp2_with fail
    refine (nget_any _ (cutL xs 1 9) _ (readB_below (readB_cut HRD.out 1 9 (by omega) (by omega)) (by repeat' (first | exact Below.refl _ _ | refine b_alloc ?_ _))) (isBytes_take (isBytes_drop HBY.out _) _) (by unfold cutL; have := HL.out; simp; omega)).mono ?_
    rintro e w2 ⟨rfl, rfl⟩
    obtain ⟨z, hz⟩ : ∃ z, z = getL ((cutL xs 1 9).take 8) := ⟨_, rfl⟩
    rw [← hz] at EX ⊢
    have HZ := Lib.hid hz; clear hz
    go_wp2_with fail
    exact bodyPost_ret (v := .tuple #[instV op (xR xs) (aR xs) (bR xs), .int .i64 (szR op), .int .i64 0]) (by rw [EX.out, EA.out, EB.out, K2.out, K3.out, KS.out]; simp [results, Try.results20, go_sem, instV]) rfl ⟨rfl, by (repeat' (first | exact Below.refl _ _ | assumption | refine b_alloc ?_ _ | refine b_over ?_ _ | refine b_drew ?_ | refine b_call ?_ (by assumption)))⟩
  · have hs : szR op = 3 := by unfold szR; rw [k2, k3]; rfl
    have l1 : 3 ≤ xs.length := hs ▸ HSZ.out
    have l1i : (3 : Int) ≤ xs.length := by omega
    have t1 : decide ((xs.length : Int) < 3) = false := by rw [decide_eq_false_iff_not]; omega
    have c1 : 3 ≤ cap := by omega
    rw [k1, k2, k3]
    have K2 := Lib.hid k2; have K3 := Lib.hid k3; have KS := Lib.hid hs
    clear k1 k2 k3 hs
    go_wp2_with fail
    refine (nget_any _ (cutL xs 1 3) _ (readB_below (readB_cut HRD.out 1 3 (by omega) (by omega)) (by repeat' (first | exact Below.refl _ _ | refine b_alloc ?_ _))) (isBytes_take (isBytes_drop HBY.out _) _) (by unfold cutL; have := HL.out; simp; omega)).mono ?_
    rintro e w2 ⟨rfl, rfl⟩
    obtain ⟨z, hz⟩ : ∃ z, z = getL ((cutL xs 1 3).take 8) := ⟨_, rfl⟩
    have zb := getL_bd16 HBY.out hz
    rw [← hz] at EA ⊢
    have hzc : IntKind.i64.wrap z = z := by rw [IntWalk.i64_in]; omega
    have HZ := Lib.hid hz; have ZB := Lib.hid zb; clear hz zb
    go_wp2_with fail
    exact bodyPost_ret (v := .tuple #[instV op (xR xs) (aR xs) (bR xs), .int .i64 (szR op), .int .i64 0]) (by rw [EX.out, EA.out, EB.out, K2.out, K3.out, KS.out]; simp [results, Try.results20, go_sem, instV]) rfl ⟨rfl, by (repeat' (first | exact Below.refl _ _ | assumption | refine b_alloc ?_ _ | refine b_over ?_ _ | refine b_drew ?_ | refine b_call ?_ (by assumption)))⟩
  · have hs : szR op = 5 := by unfold szR; rw [k2, k3]; rfl
    have l1 : 5 ≤ xs.length := hs ▸ HSZ.out
    have l1i : (5 : Int) ≤ xs.length := by omega
    have t1 : decide ((xs.length : Int) < 5) = false := by rw [decide_eq_false_iff_not]; omega
    have c1 : 5 ≤ cap := by omega
    rw [k1, k2, k3]
    have K2 := Lib.hid k2; have K3 := Lib.hid k3; have KS := Lib.hid hs
    clear k1 k2 k3 hs
    go_wp2_with fail
    refine (nget_any _ (cutL xs 1 3) _ (readB_below (readB_cut HRD.out 1 3 (by omega) (by omega)) (by repeat' (first | exact Below.refl _ _ | refine b_alloc ?_ _))) (isBytes_take (isBytes_drop HBY.out _) _) (by unfold cutL; have := HL.out; simp; omega)).mono ?_
    rintro e w2 ⟨rfl, rfl⟩
    obtain ⟨z, hz⟩ : ∃ z, z = getL ((cutL xs 1 3).take 8) := ⟨_, rfl⟩
    have zb := getL_bd16 HBY.out hz
    rw [← hz] at EA ⊢
    have hzc : IntKind.i64.wrap z = z := by rw [IntWalk.i64_in]; omega
    have HZ := Lib.hid hz; have ZB := Lib.hid zb; clear hz zb
    go_wp2_with fail
    refine (nget_any _ (cutL xs 3 5) _ (readB_below (readB_cut HRD.out 3 5 (by omega) (by omega)) (by repeat' (first | exact Below.refl _ _ | refine b_alloc ?_ _))) (isBytes_take (isBytes_drop HBY.out _) _) (by unfold cutL; have := HL.out; simp; omega)).mono ?_
    rintro e w2 ⟨rfl, rfl⟩
    obtain ⟨y, hy⟩ : ∃ y, y = getL ((cutL xs 3 5).take 8) := ⟨_, rfl⟩
    have yb := getL_bd16 HBY.out hy
    rw [← hy] at EB ⊢
    have hyc : IntKind.i64.wrap y = y := by rw [IntWalk.i64_in]; omega
    have HY := Lib.hid hy; have YB := Lib.hid yb; clear hy yb
    go_wp2_with fail
    exact bodyPost_ret (v := .tuple #[instV op (xR xs) (aR xs) (bR xs), .int .i64 (szR op), .int .i64 0]) (by rw [EX.out, EA.out, EB.out, K2.out, K3.out, KS.out]; simp [results, Try.results20, go_sem, instV]) rfl ⟨rfl, by (repeat' (first | exact Below.refl _ _ | assumption | refine b_alloc ?_ _ | refine b_over ?_ _ | refine b_drew ?_ | refine b_call ?_ (by assumption)))⟩
end Go.Proofs.Ytdhkemnebppkhaa
