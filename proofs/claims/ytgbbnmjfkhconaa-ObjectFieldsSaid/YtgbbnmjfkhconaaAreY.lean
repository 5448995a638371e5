/- Layer 3: the document's New, In, Word, With, Do; the law's 'right' and 'same'. Conditions: at most 65536 bytes; bytes are bytes. -/
import Derived.Test.YtgbbnmjfkhconaaAreX
namespace Go.Proofs.Ytgbbnmjfkhconaa
open Go.RowKit
set_option linter.unusedVariables false
set_option linter.unusedSimpArgs false
attribute [local go_sem] over_cell over_frozen
def inB (len : Nat) (a n : Int) : Bool := decide (inE len a n = 0)
theorem r3in_any {w : World} (u : Value) (W : List Int) (h : ReadB w u W) (hl : W.length ≤ 65536) (a n : Int) : Calls Try.prog 30 #[u, .int .i64 a, .int .i64 n] w fun e w' => e = .returned (.bool (inB W.length a n)) ∧ w = w' := by
  obtain ⟨ua, uc, rfl⟩ := readB_len h
  clear h
  generalize W.length = N at *
  unfold inB
  rcases (show a < 0 ∨ (0 ≤ a ∧ n < 0) ∨ (0 ≤ a ∧ 0 ≤ n ∧ (N : Int) < n) ∨ (0 ≤ a ∧ 0 ≤ n ∧ n ≤ N ∧ N - n < a) ∨ (0 ≤ a ∧ 0 ≤ n ∧ n ≤ N ∧ a ≤ N - n) by omega) with q | ⟨q1, q⟩ | ⟨q1, q2, q⟩ | ⟨q1, q2, q3, q⟩ | ⟨q1, q2, q3, q⟩
  · rw [show inE N a n = 3 from if_neg (by omega)]
    go_enter Try.func30, Try.ntmps30
    go_wp2_with fail
    go_ret
    exact ⟨rfl, rfl⟩
  · rw [show inE N a n = 3 from if_neg (by omega)]
    go_enter Try.func30, Try.ntmps30
    go_wp2_with fail
    go_ret
    exact ⟨rfl, rfl⟩
  · rw [show inE N a n = 3 from if_neg (by omega)]
    go_enter Try.func30, Try.ntmps30
    go_wp2_with fail
    go_ret
    exact ⟨rfl, rfl⟩
  · rw [show inE N a n = 3 from if_neg (by omega)]
    have q' : ¬ (a ≤ (N : Int) - n) := by omega
    have q2' : decide (a ≤ (N : Int) - n) = false := by rw [decide_eq_false_iff_not]; omega
    go_enter Try.func30, Try.ntmps30
    go_wp2_with fail
    go_ret
    exact ⟨rfl, rfl⟩
  · rw [show inE N a n = 0 from if_pos (by omega)]
    go_enter Try.func30, Try.ntmps30
    go_wp2_with fail
    go_ret
    exact ⟨rfl, rfl⟩
theorem r3word_any {w : World} {g cap : Nat} {W : List Int} (R : RowAt w g cap W) (a : Int) : Calls Try.prog 24 #[rowV g W cap, .int .i64 a] w fun e w' => e = .returned (.tuple #[.int .u64 (if wordE W.length a = 0 then getW W a.toNat else 0), .int .i64 (wordE W.length a)]) ∧ w = w' := by
  have hin := Lib.hid (r3in_any _ W (row_read R) R.mx a 8)
  have H := Lib.hid R
  have hle := R.le
  have hcp := R.cp
  have hmx := R.mx
  unfold rowV inB at *
  clear R
  rcases wordE_cases W.length a with ⟨h1, h2⟩ | ⟨h1, h2, h3, h4⟩ | ⟨h1, h2, k, rfl, h3, h4⟩
  · rw [h1]
    rw [h2] at hin
    clear h1 h2
    go_enter Try.func24, Try.ntmps24
    go_wp2_with fail
    refine hin.out.mono ?_
    rintro e w1 ⟨rfl, rfl⟩
    go_wp2_with fail
    go_ret2
    exact ⟨rfl, rfl⟩
  · rw [h1]
    rw [h2] at hin
    have t0 : 0 < a.tmod 8 := by rw [Int.tmod_eq_emod_of_nonneg h3]; omega
    clear h1 h2
    go_enter Try.func24, Try.ntmps24
    go_wp2_with fail
    refine hin.out.mono ?_
    rintro e w1 ⟨rfl, rfl⟩
    go_wp2_with fail
    go_ret2
    exact ⟨rfl, rfl⟩
  · rw [h1, if_pos rfl, Int.toNat_natCast]
    rw [h2] at hin
    have hcap := cap_le hcp
    have t1 : (k : Int).tmod 8 = 0 := by rw [Int.tmod_eq_emod_of_nonneg (by omega)]; omega
    have k0 : (0 : Int) ≤ k := by omega
    have k1 : (k : Int) ≤ 65528 := by omega
    have k2 : (k : Int) + 8 ≤ cap := by omega
    have h8 : Hid (ReadB w (.slice (some ⟨g, k, none⟩) 8 (cap - k)) ((W.drop k).take 8)) := readB_sub H.out.rw H.out.le H.out.cp h3 (fun _ => rfl) rfl (by intro e; cases e)
    have HBY : Hid (IsBytes ((W.drop k).take 8)) := isBytes_take (isBytes_drop H.out.by_ k) 8
    have HLN : Hid (((W.drop k).take 8).length ≤ 8) := by show _ ≤ _; rw [List.length_take]; omega
    have HG : Hid (getW W k = getL (((W.drop k).take 8).take 8)) := by show _ = _; rw [List.take_take]; rfl
    clear h1 h2
    go_enter Try.func24, Try.ntmps24
    go_wp2_with fail
    refine hin.out.mono ?_
    rintro e w1 ⟨rfl, rfl⟩
    go_wp2_with fail
    refine (rnget_any _ ((W.drop k).take 8) _ h8.out HBY.out (by have := HLN.out; omega)).mono ?_
    rintro e w1 ⟨rfl, rfl⟩
    go_wp2_with fail
    go_ret2
    exact ⟨by rw [HG.out]; rfl, rfl⟩
theorem r3new_any (n : Int) (w : World) : Calls Try.prog 29 #[.int .i64 n] w (NewRowB w (List.replicate (256 * pagesN n) 0)) := by
  have hfin : ∀ m : Nat, m ≤ 65536 → ∀ e, e = Ending.returned (.slice (some ⟨w.heap.size, 0, none⟩) m m) → NewRowB w (List.replicate m 0) e (w.alloc (.cells (byts (List.replicate m 0)).toArray 5)) := by
    intro m hm e he
    exact ⟨w.heap.size, m, by rw [he]; unfold rowV; rw [List.length_replicate], row_mk w m hm, Nat.le_refl _, b_alloc (Below.refl _ _) _⟩
  rcases (show n < 0 ∨ (0 ≤ n ∧ 256 < n) ∨ ∃ m : Nat, n = m ∧ m ≤ 256 by
    rcases (show n < 0 ∨ (0 ≤ n ∧ 256 < n) ∨ (0 ≤ n ∧ n ≤ 256) by omega) with q | q | q
    · exact Or.inl q
    · exact Or.inr (Or.inl q)
    · exact Or.inr (Or.inr ⟨n.toNat, by omega, by omega⟩)) with q | ⟨q1, q2⟩ | ⟨m, rfl, hm⟩
  · rw [show 256 * pagesN n = 0 by unfold pagesN; rw [if_pos q]]
    have K := mk_byts 0 (by omega) 0 rfl
    have F := Lib.hid (hfin 0 (by omega))
    clear hfin
    go_enter Try.func29, Try.ntmps29
    go_wp2_with fail
    go_ret
    exact F.out _ rfl
  · obtain ⟨N, hN⟩ : ∃ N : Nat, N = 65536 := ⟨_, rfl⟩
    rw [show 256 * pagesN n = N by unfold pagesN; rw [if_neg (by omega), if_pos q2]; omega]
    have K := mk_byts N (by omega) 65536 (by omega)
    have F := Lib.hid (hfin N (by omega))
    clear hfin
    generalize (byts (List.replicate N 0)).toArray = Z at *
    have HN := Lib.hid hN
    clear hN
    go_enter Try.func29, Try.ntmps29
    go_wp2_with fail
    go_ret
    exact F.out _ rfl
  · rw [show 256 * pagesN (m : Int) = 256 * m by unfold pagesN; rw [if_neg (by omega), if_neg (by omega)]; omega]
    have K := mk_byts (256 * m) (by omega) (256 * (m : Int)) (by omega)
    have F := Lib.hid (hfin (256 * m) (by omega))
    have hm1 : (m : Int) ≤ 256 := by omega
    have hm0 : (0 : Int) ≤ m := by omega
    clear hfin
    generalize (byts (List.replicate (256 * m) 0)).toArray = Z at *
    obtain ⟨N, hN⟩ : ∃ N, N = 256 * m := ⟨_, rfl⟩
    rw [← hN] at K F ⊢
    have HN := Lib.hid hN
    clear hN
    go_enter Try.func29, Try.ntmps29
    go_wp2_with fail
    go_ret
    exact F.out _ rfl
theorem row_lay {w : World} {g cap : Nat} {L : List Int} (h : RowAt w g cap L) {k : Nat} {M : List Int} (hk : k + M.length ≤ L.length) (hM : IsBytes M) : RowAt (w.setCells g k (byts M)) g cap (lay L k M) := by
  have e := lay_length hk
  exact ⟨blkB_lay h.rw hk, by rw [e]; exact h.le, h.cp, isBytes_lay h.by_ hM k, by rw [e]; exact h.mx⟩
theorem r3with_any {w : World} {g cap : Nat} {W : List Int} (R : RowAt w g cap W) (k : Nat) (u : Value) (M : List Int) (hr : ReadB w u M) (hM : IsBytes M) (hk : k + M.length ≤ W.length) : Calls Try.prog 25 #[rowV g W cap, .int .i64 k, u] w (NewRowB w (lay W k M)) := by
  have hrd := readB_R (row_read R)
  have H := Lib.hid R
  have HR := Lib.hid hr
  have HM := Lib.hid hM
  have HK := Lib.hid hk
  have hmx := R.mx
  obtain ⟨ua, uc, rfl⟩ := readB_len hr
  have k0 : (0 : Int) ≤ k := by omega
  have k1 : (k : Int) ≤ W.length := by omega
  have HV : Hid (rowV g W cap = .slice (some ⟨g, 0, none⟩) W.length cap) := rfl
  rw [HV.out] at hrd ⊢
  clear R hr hM hk
  rcases Nat.eq_zero_or_pos W.length with hz | hz
  · have e : W = [] := List.eq_nil_of_length_eq_zero hz
    subst e
    have hk0 : k = 0 := by have := HK.out; simp at this; omega
    have hM0 : M = [] := by have := HK.out; simp at this; exact List.eq_nil_of_length_eq_zero (by simp [this])
    subst hk0; subst hM0
    simp only [List.length_nil] at hz ⊢
    clear hrd hz k0 k1
    go_enter Try.func25, Try.ntmps25
    go_upto_region 2 with (at_builtin; refine appendR0 (c := byE) rowByte rfl _ _ rfl w.heap.size ⟨g, 0, none⟩ cap rfl rfl ?_)
    refine wp_nm ?_
    intro w1 hw1
    have R1 : RowAt w1 w.heap.size 0 [] := by rw [hw1]; exact ⟨blk_new w #[] _, Nat.le_refl _, Nat.zero_le _, (fun x hx => by cases hx), by simp⟩
    have HB1 : Hid (Below w.heap.size w w1) := by show Below _ _ _; rw [hw1]; exact b_alloc (Below.refl _ _) _
    have HR1 := Lib.hid R1
    have HRU := Lib.hid (readB_below HR.out HB1.out)
    clear hw1 R1
    go_wp2_with (refine copyB rfl _ _ _ _ 5 rfl under_byts szByte w.heap.size 0 _ _ _ [] [] _ rfl (fun h => absurd h (by decide)) (Nat.zero_le _) rfl HRU.out HR1.out.rw (by decide) ?_)
    go_ret
    exact ⟨w.heap.size, 0, rfl, HR1.out, Nat.le_refl _, HB1.out⟩
  · go_enter Try.func25, Try.ntmps25
    go_upto_region 2 with (at_builtin; refine appendR (c := byE) rowByte rfl _ _ rfl w.heap.size _ [] rfl (own_emptyR (Nat.le_refl _)) _ W rfl (readR_below hrd (b_alloc (Below.refl _ _) _)) ?c1 ?c2 ?c3 ?_; (case c1 => (simp; omega)); (case c2 => (unfold maxLen; simp; omega)); (case c3 => (simp)); intro v1 w1 hown1 hg1)
    rw [List.nil_append] at hown1
    have HB1 : Hid (Below w.heap.size w w1) := b_ownR (b_alloc (Below.refl _ _) _) (own_emptyR (c := byE) (E := 5) (Nat.le_refl _)) hg1
    obtain ⟨g1, cap1, rfl, f1, f2, f3, f4, f5⟩ := ownR_form hown1 hz
    rw [row_byts] at f5
    have R1 : RowAt w1 g1 cap1 W := ⟨f5, f3, f4, H.out.by_, H.out.mx⟩
    have hcap1 := cap_le f4
    have HR1 := Lib.hid R1
    have HRU := Lib.hid (readB_below HR.out HB1.out)
    have HL := Lib.hid (row_lay R1 HK.out HM.out)
    have HBL : Hid (Below w.heap.size w (w1.setCells g1 k (byts M))) := b_grown HB1.out (gb_sets _ _ (gb_refl _ _)) f1
    have HLE : Hid ((lay W k M).length = W.length) := lay_length HK.out
    have k2 : (k : Int) ≤ cap1 := by omega
    clear hown1 hg1 f5 R1 hrd
    by_cases hck : cap1 = k
    · subst hck
      have HM0 : Hid (M.length = 0) := by show M.length = 0; have := HK.out; omega
      go_wp2_with (refine copyB rfl _ _ _ _ 5 rfl under_byts szByte g1 cap1 _ _ _ W M _ rfl (fun h => absurd h (by have := HM0.out; omega)) (by have := HM0.out; omega) rfl HRU.out HR1.out.rw HK.out ?_)
      go_ret
      exact ⟨g1, cap1, by unfold rowV; rw [HLE.out]; rfl, HL.out, f1, HBL.out⟩
    · go_wp2_with (refine copyB rfl _ _ _ _ 5 rfl under_byts szByte g1 k (W.length - k) (cap1 - k) _ W M _ rfl (fun h => rfl) (by have := HK.out; omega) rfl HRU.out HR1.out.rw HK.out ?_)
      go_ret
      exact ⟨g1, cap1, by unfold rowV; rw [HLE.out]; rfl, HL.out, f1, HBL.out⟩
theorem loadL_all (L : List Int) : loadL L 0 L.length = L := by
  unfold loadL
  have e : inE L.length 0 (L.length : Int) = 0 := inE_ok (k := 0) (m := L.length) (by omega)
  rw [if_pos e]
  show (L.drop 0).take ((L.length : Int)).toNat = L
  simp
theorem l3same_eq {w : World} {b g cap : Nat} {L : List Int} (H : AreAt w b g cap L) (u : Value) (hu : ReadB w u L) : Calls Try.prog 27 #[tp b, u] w fun e w' => e = .returned (.bool true) ∧ Below w.heap.size w w' := by
  have hlen := Lib.hid (alen_any H)
  have hld := Lib.hid (aload_any H 0 L.length)
  have e0 : inE L.length 0 L.length = 0 := inE_ok (k := 0) (m := L.length) (by omega)
  rw [e0, loadL_all] at hld
  obtain ⟨ua, uc, rfl⟩ := readB_len hu
  have HU := Lib.hid hu
  have HBY := Lib.hid H.by_
  obtain ⟨s, hs⟩ : ∃ s, s = bstr L := ⟨_, rfl⟩
  have HS := Lib.hid hs
  unfold tp at *
  clear H hu e0 hs
  go_enter Try.func27, Try.ntmps27
  go_wp2_with fail
  refine hlen.out.mono ?_
  rintro e w1 ⟨rfl, rfl⟩
  go_wp2_with fail
  refine hld.out.mono ?_
  rintro e w1 ⟨v, rfl, hrv, hb, _⟩
  obtain ⟨va, vc, rfl⟩ := readB_len hrv
  have cv1 := conv_read hrv HBY.out
  have cv2 := conv_read (readB_below HU.out hb) HBY.out
  rw [← HS.out] at cv1 cv2
  have HB := Lib.hid hb
  clear hrv hb
  go_wp2_with fail
  go_ret
  exact ⟨rfl, HB.out⟩
end Go.Proofs.Ytgbbnmjfkhconaa
