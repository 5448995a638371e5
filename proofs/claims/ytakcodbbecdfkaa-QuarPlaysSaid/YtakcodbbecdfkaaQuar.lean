/- The contracts of quar's methods: a ring of 65 places stands for a list. Conditions: the list fits the ring. -/
import Derived.Test.YtakcodbbecdfkaaProg
import Derived.Test.YtakcodbbecdfkaaHeap
namespace Go.Proofs.Ytakcodbbecdfkaa
open Go.RowKit
set_option linter.unusedVariables false
set_option linter.unusedSimpArgs false
/-- The cells of a ring at block b. -/
structure QAt (w : World) (b : Nat) (R : Nat → Int) (f c m : Nat) : Prop where
  ring : ∀ i, i < 65 → w.cell? ⟨b, i, none⟩ = some (.int .i64 (R i))
  fr : w.cell? ⟨b, 65, none⟩ = some (.int .i64 f)
  cn : w.cell? ⟨b, 66, none⟩ = some (.int .i64 c)
  ms : w.cell? ⟨b, 67, none⟩ = some (.int .i64 m)
  free : ∀ i, w.frozen? ⟨b, i, none⟩ = false
  lt : b < w.heap.size
def ptr (b : Nat) : Value := .pointer (some ⟨b, 0, none⟩)
theorem qlen_any (b : Nat) (R : Nat → Int) (f c m : Nat) (w : World) (h : QAt w b R f c m) :
    Calls Try.prog 25 #[ptr b] w fun e w' => e = .returned (.int .i64 c) ∧ w = w' := by
  have h1 := h.cn
  unfold ptr
  clear h
  go_enter Try.func25, Try.ntmps25
  go_wp2
  go_ret
  exact ⟨rfl, rfl⟩
def z68 : Array Value := Array.replicate 68 (.int .i64 0)
theorem zero68 (w : World) : (zeroValue 60).run Try.prog w = .ok (.agg z68) w := by kernel_rfl
theorem size68 : z68.size = 68 := by decide
def mostI (n : Int) : Int := if n < 0 then 0 else if 64 < n then 64 else n
theorem mostI_bd (n : Int) : 0 ≤ mostI n ∧ mostI n ≤ 64 := by unfold mostI; split <;> (try split) <;> omega
theorem qnew_raw (n : Int) (w : World) :
    Calls Try.prog 23 #[.int .i64 n] w fun e w' => e = .returned (ptr w.heap.size) ∧ w' = w.alloc (.cells (z68.setIfInBounds 67 (.int .i64 (mostI n))) 60) := by
  have hz := zero68
  have hs := size68
  unfold ptr
  rcases (show n < 0 ∨ (0 ≤ n ∧ 64 < n) ∨ (0 ≤ n ∧ n ≤ 64) by omega) with h | ⟨h, h'⟩ | ⟨h, h'⟩
  · have G : Hid (mostI n = 0) := by unfold mostI; rw [if_pos h]; exact rfl
    go_enter Try.func23, Try.ntmps23
    go_wp2
    go_ret
    exact ⟨rfl, by rw [G.out]⟩
  · have G : Hid (mostI n = 64) := by unfold mostI; rw [if_neg (by omega), if_pos h']; exact rfl
    go_enter Try.func23, Try.ntmps23
    go_wp2
    go_ret
    exact ⟨rfl, by rw [G.out]⟩
  · have G : Hid (mostI n = n) := by unfold mostI; rw [if_neg (by omega), if_neg (by omega)]; exact rfl
    go_enter Try.func23, Try.ntmps23
    go_wp2
    go_ret
    exact ⟨rfl, by rw [G.out]⟩
def upd (R : Nat → Int) (i : Nat) (x : Int) : Nat → Int := fun j => if j = i then x else R j
theorem qat_drewN {w : World} {b : Nat} {R : Nat → Int} {f c m : Nat} (h : QAt w b R f c m) (n : Nat) : QAt (w.drewN n) b R f c m := ⟨h.ring, h.fr, h.cn, h.ms, h.free, h.lt⟩
theorem qat_ring {w : World} {b : Nat} {R : Nat → Int} {f c m : Nat} (h : QAt w b R f c m) (i : Nat) (hi : i < 65) (x : Int) : QAt (w.setCell ⟨b, i, none⟩ (.int .i64 x)) b (upd R i x) f c m := by
  have hc := h.ring i hi
  refine ⟨fun j hj => ?_, ?_, ?_, ?_, fun j => (World.frozen?_setCell _ _ _ _).trans (h.free j), by simpa using h.lt⟩
  · rw [cell_set hc]; unfold upd; split
    · rfl
    · exact h.ring j hj
  · rw [cell_set hc, if_neg (by omega)]; exact h.fr
  · rw [cell_set hc, if_neg (by omega)]; exact h.cn
  · rw [cell_set hc, if_neg (by omega)]; exact h.ms
theorem qat_from {w : World} {b : Nat} {R : Nat → Int} {f c m : Nat} (h : QAt w b R f c m) (f' : Nat) : QAt (w.setCell ⟨b, 65, none⟩ (.int .i64 f')) b R f' c m := by
  have hc := h.fr
  refine ⟨fun j hj => ?_, ?_, ?_, ?_, fun j => (World.frozen?_setCell _ _ _ _).trans (h.free j), by simpa using h.lt⟩
  · rw [cell_set hc, if_neg (by omega)]; exact h.ring j hj
  · rw [cell_set hc, if_pos rfl]
  · rw [cell_set hc, if_neg (by omega)]; exact h.cn
  · rw [cell_set hc, if_neg (by omega)]; exact h.ms
theorem qat_count {w : World} {b : Nat} {R : Nat → Int} {f c m : Nat} (h : QAt w b R f c m) (c' : Nat) : QAt (w.setCell ⟨b, 66, none⟩ (.int .i64 c')) b R f c' m := by
  have hc := h.cn
  refine ⟨fun j hj => ?_, ?_, ?_, ?_, fun j => (World.frozen?_setCell _ _ _ _).trans (h.free j), by simpa using h.lt⟩
  · rw [cell_set hc, if_neg (by omega)]; exact h.ring j hj
  · rw [cell_set hc, if_neg (by omega)]; exact h.fr
  · rw [cell_set hc, if_pos rfl]
  · rw [cell_set hc, if_neg (by omega)]; exact h.ms
theorem mod65 (f : Nat) : (((f : Int) + 1) % 65) = (((f + 1) % 65 : Nat) : Int) := by omega
theorem qtake_yes (b : Nat) (R : Nat → Int) (f c m : Nat) (w : World) (h : QAt w b R f (c + 1) m) (hf : f < 65) (hcc : c ≤ 64) :
    Calls Try.prog 27 #[ptr b] w fun e w' => e = .returned (.tuple #[.int .i64 (R f), .bool true]) ∧ QAt w' b R ((f + 1) % 65) c m ∧ w.grownBy w' (some b) := by
  have h0 : (((c + 1 : Nat) : Int) == 0) = false := beq_false_of_ne (by omega)
  have h1 := h.cn
  have h2 := h.ring f hf
  have h3 := h.fr
  have h4 := h.free
  have hf1 : (0 : Int) ≤ f := by omega
  have hf2 : (f : Int) < 65 := by omega
  have hc2 : (c : Int) ≤ 64 := by omega
  have hc := qlen_any b R f (c+1) m w h
  have H := Lib.hid h
  clear h
  unfold ptr at *
  go_enter Try.func27, Try.ntmps27
  go_wp2_with fail
  refine hc.mono ?_
  rintro e w' ⟨rfl, rfl⟩
  go_wp2_with fail
  go_quiet (fail)
  go_wp2_with fail
  go_ret2
  refine ⟨rfl, ?_, gb_set (gb_set (gb_drewN (gb_refl _ _) _) _ _ _) _ _ _⟩
  rw [mod65]
  exact qat_count (qat_from (qat_drewN H.out _) _) _
theorem qtake_no (b : Nat) (R : Nat → Int) (f m : Nat) (w : World) (h : QAt w b R f 0 m) :
    Calls Try.prog 27 #[ptr b] w fun e w' => e = .returned (.tuple #[.int .i64 0, .bool false]) ∧ w = w' := by
  have hc := qlen_any b R f 0 m w h
  clear h
  unfold ptr at *
  go_enter Try.func27, Try.ntmps27
  go_wp2_with fail
  refine hc.mono ?_
  rintro e w' ⟨rfl, rfl⟩
  go_wp2
  go_ret2
  exact ⟨rfl, rfl⟩
theorem mod65' (f c : Nat) : (((f : Int) + (c : Int)) % 65) = (((f + c) % 65 : Nat) : Int) := by omega
theorem qput_pre (b : Nat) (R : Nat → Int) (f c m i : Nat) (w : World) (h : QAt w b R f c m) (hf : f < 65) (hcm : c ≤ 64) (hi : i = (f + c) % 65) :
    i < 65 ∧ IntKind.i64.wrap ((f : Int) + (c : Int)) = (f : Int) + (c : Int) ∧ ((f : Int) + (c : Int)).tmod 65 = (i : Int) ∧ ¬ i = 66 ∧ ¬ i = 67 ∧ ¬ 66 = i ∧ ¬ 67 = i ∧ (0 : Int) ≤ i ∧ (i : Int) < 65 := by
  refine ⟨by omega, IntWalk.i64_in _ (by omega), ?_, by omega, by omega, by omega, by omega, by omega, by omega⟩
  rw [IntWalk.rem_in _ _ (by omega)]; omega
theorem qput_room (b : Nat) (R : Nat → Int) (f c m : Nat) (x : Int) (w : World) (h : QAt w b R f c m) (hf : f < 65) (hcm : c < m) (hm : m ≤ 64) :
    Calls Try.prog 24 #[ptr b, .int .i64 x] w fun e w' => e = .returned (.tuple #[.int .i64 0, .bool false]) ∧ QAt w' b (upd R ((f + c) % 65) x) f (c + 1) m ∧ w.grownBy w' (some b) := by
  obtain ⟨i, hi⟩ : ∃ i, i = (f + c) % 65 := ⟨_, rfl⟩
  obtain ⟨i0, r1, r2, n1, n2, n3, n4, p1, p2⟩ := qput_pre b R f c m i w h hf (by omega) hi
  rw [← hi]; clear hi
  have h1 := h.cn
  have h2 := h.ring i i0
  have h3 := h.fr
  have h4 := h.free
  have h5 := h.ms
  have hf1 : (0 : Int) ≤ f := by omega
  have hf2 : (f : Int) < 65 := by omega
  have hc1 : (0 : Int) ≤ c := by omega
  have hc2 : (c : Int) < m := by omega
  have hm2 : (m : Int) ≤ 64 := by omega
  have H := Lib.hid h
  clear h
  unfold ptr at *
  go_enter Try.func24, Try.ntmps24
  go_wp2_with fail
  go_still_tail 15, (by kernel_rfl)
  go_wp2_with fail
  go_quiet (fail)
  go_wp2
  go_ret2
  refine ⟨rfl, ?_, gb_drewN (gb_drew (gb_set (gb_set (gb_refl _ _) _ _ _) _ _ _)) _⟩
  exact qat_drewN (qat_drewN (qat_count (qat_ring H.out i i0 x) (c + 1)) 1) _
theorem qput_full (b : Nat) (R : Nat → Int) (f c m : Nat) (x : Int) (w : World) (h : QAt w b R f c m) (hf : f < 65) (hcm : c = m) (hm : m ≤ 64) :
    Calls Try.prog 24 #[ptr b, .int .i64 x] w fun e w' => e = .returned (.tuple #[.int .i64 (upd R ((f + c) % 65) x f), .bool true]) ∧ QAt w' b (upd R ((f + c) % 65) x) ((f + 1) % 65) c m ∧ w.grownBy w' (some b) := by
  obtain ⟨i, hi⟩ : ∃ i, i = (f + c) % 65 := ⟨_, rfl⟩
  obtain ⟨i0, r1, r2, n1, n2, n3, n4, p1, p2⟩ := qput_pre b R f c m i w h hf (by omega) hi
  rw [← hi]; clear hi
  have h1 := h.cn
  have h2 := h.ring i i0
  have h3 := h.fr
  have h4 := h.free
  have h5 := h.ms
  have hf1 : (0 : Int) ≤ f := by omega
  have hf2 : (f : Int) < 65 := by omega
  have hc1 : (0 : Int) ≤ c := by omega
  have hc2 : (m : Int) ≤ c := by omega
  have hc4 : (c : Int) ≤ 64 := by omega
  have ht : decide ((c : Int) + 1 ≤ m) = false := decide_eq_false (by omega)
  clear hcm
  have hm2 : (m : Int) ≤ 64 := by omega
  have H := Lib.hid h
  clear h
  unfold ptr at *
  go_enter Try.func24, Try.ntmps24
  go_wp2_with fail
  go_still_tail 15, (by kernel_rfl)
  go_wp2_with fail
  go_quiet (fail)
  go_wp2_with fail
  refine (qtake_yes b (upd R i x) f c m _ (by exact qat_drewN (qat_count (qat_ring H.out i i0 x) (c + 1)) _) hf (by omega)).mono ?_
  rintro e w' ⟨rfl, hq, hg⟩
  go_wp2
  go_ret2
  exact ⟨rfl, hq, gb_trans (gb_drewN (gb_set (gb_set (gb_refl _ _) _ _ _) _ _ _) _) hg⟩
/-- The ring at block b stands for a list. -/
def QL (w : World) (b m : Nat) (xs : List Int) : Prop := ∃ R f, QAt w b R f xs.length m ∧ f < 65 ∧ xs.length ≤ m ∧ m ≤ 64 ∧ ∀ k, k < xs.length → R ((f + k) % 65) = xs.getD k 0
def putL (m : Nat) (xs : List Int) (x : Int) : List Int := if xs.length < m then xs ++ [x] else (xs ++ [x]).tail
def putB (m : Nat) (xs : List Int) : Bool := !decide (xs.length < m)
def putO (m : Nat) (xs : List Int) (x : Int) : Int := if xs.length < m then 0 else (xs ++ [x]).headD 0
theorem qput_any (b m : Nat) (xs : List Int) (x : Int) (w : World) (h : QL w b m xs) :
    Calls Try.prog 24 #[ptr b, .int .i64 x] w fun e w' => e = .returned (.tuple #[.int .i64 (putO m xs x), .bool (putB m xs)]) ∧ QL w' b m (putL m xs x) ∧ w.grownBy w' (some b) := by
  obtain ⟨R, f, hq, hf, hl, hm, hR⟩ := h
  have hR' : ∀ k, k ≤ xs.length → upd R ((f + xs.length) % 65) x ((f + k) % 65) = (xs ++ [x]).getD k 0 := fun k hk => by
    unfold upd
    by_cases e : k = xs.length
    · subst e; rw [if_pos rfl]; simp
    · rw [if_neg (by omega), hR k (by omega)]
      simp only [List.getD_eq_getElem?_getD]
      rw [List.getElem?_append_left (by omega)]
  by_cases c : xs.length < m
  · refine (qput_room b R f xs.length m x w hq hf c hm).mono ?_
    rintro e w' ⟨rfl, h1, h2⟩
    unfold putO putB putL
    rw [if_pos c, if_pos c, decide_eq_true c]
    refine ⟨rfl, ⟨_, f, by simpa using h1, hf, by simp; omega, hm, fun k hk => ?_⟩, h2⟩
    simp at hk; exact hR' k (by omega)
  · refine (qput_full b R f xs.length m x w hq hf (by omega) hm).mono ?_
    rintro e w' ⟨rfl, h1, h2⟩
    unfold putO putB putL
    rw [if_neg c, if_neg c, decide_eq_false c]
    refine ⟨?_, ⟨_, (f + 1) % 65, by simpa using h1, by omega, by simp; omega, hm, fun k hk => ?_⟩, h2⟩
    · have := hR' 0 (by omega)
      rw [Nat.add_zero, Nat.mod_eq_of_lt hf] at this
      rw [this]; cases xs <;> rfl
    · simp at hk
      have := hR' (k + 1) (by omega)
      have e : (f + (k + 1)) % 65 = ((f + 1) % 65 + k) % 65 := by omega
      rw [e] at this
      rw [this]
      simp only [List.getD_eq_getElem?_getD, List.getElem?_tail]
theorem qtake_any (b m : Nat) (xs : List Int) (w : World) (h : QL w b m xs) :
    Calls Try.prog 27 #[ptr b] w fun e w' => e = .returned (.tuple #[.int .i64 (xs.headD 0), .bool (!xs.isEmpty)]) ∧ QL w' b m xs.tail ∧ w.grownBy w' (some b) := by
  obtain ⟨R, f, hq, hf, hl, hm, hR⟩ := h
  cases xs with
  | nil =>
    refine (qtake_no b R f m w hq).mono ?_
    rintro e w' ⟨rfl, rfl⟩
    exact ⟨rfl, ⟨R, f, hq, hf, hl, hm, hR⟩, gb_refl _ _⟩
  | cons x t =>
    simp only [List.length_cons] at hl hR hq
    refine (qtake_yes b R f t.length m w hq hf (by omega)).mono ?_
    rintro e w' ⟨rfl, h1, h2⟩
    refine ⟨?_, ⟨R, (f + 1) % 65, h1, by omega, by simp; omega, hm, fun k hk => ?_⟩, h2⟩
    · have := hR 0 (by omega)
      rw [Nat.add_zero, Nat.mod_eq_of_lt hf] at this
      rw [this]; rfl
    · simp at hk
      have := hR (k + 1) (by omega)
      have e : (f + (k + 1)) % 65 = ((f + 1) % 65 + k) % 65 := by omega
      rw [e] at this
      rw [this]; rfl
theorem qlen_list (b m : Nat) (xs : List Int) (w : World) (h : QL w b m xs) :
    Calls Try.prog 25 #[ptr b] w fun e w' => e = .returned (.int .i64 (xs.length : Nat)) ∧ w = w' := by
  obtain ⟨R, f, hq, _⟩ := h
  exact qlen_any b R f _ m w hq
theorem z68_get (v : Value) (i : Nat) (h : i < 67) : (z68.setIfInBounds 67 v)[i]? = some (.int .i64 0) := by
  rw [Array.getElem?_setIfInBounds_ne (by omega)]
  unfold z68
  rw [Array.getElem?_replicate, if_pos (by omega)]
theorem qnew_any (n : Int) (w : World) :
    Calls Try.prog 23 #[.int .i64 n] w fun e w' => e = .returned (ptr w.heap.size) ∧ QL w' w.heap.size (mostI n).toNat [] ∧ Below w.heap.size w w' := by
  refine (qnew_raw n w).mono ?_
  rintro e w' ⟨rfl, rfl⟩
  have hb := mostI_bd n
  refine ⟨rfl, ⟨fun _ => 0, 0, ?_, by omega, by simp, by omega, fun k hk => by simp at hk⟩, (Below.refl _ _).alloc (Nat.le_refl _) _⟩
  refine ⟨fun i hi => ?_, ?_, ?_, ?_, fun i => ?_, by simp⟩
  · rw [World.cell?_alloc_new, z68_get _ _ (by omega)]
  · rw [World.cell?_alloc_new, z68_get _ _ (by omega)]; rfl
  · rw [World.cell?_alloc_new, z68_get _ _ (by omega)]; rfl
  · rw [World.cell?_alloc_new, Array.getElem?_setIfInBounds_self_of_lt (by rw [size68]; omega), Int.toNat_of_nonneg hb.1]
  · exact World.frozen?_alloc_new _ _ _ _
end Go.Proofs.Ytakcodbbecdfkaa
