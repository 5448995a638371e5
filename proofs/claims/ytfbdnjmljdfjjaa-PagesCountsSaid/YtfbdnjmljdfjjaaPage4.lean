/- Layer 4's tables: Map that fails, Unmap, Copy, Same. Conditions: a table of at most 256 pages. -/
import Derived.Test.YtfbdnjmljdfjjaaPage3
namespace Go.Proofs.Ytfbdnjmljdfjjaa
open Go.RowKit
set_option linter.unusedVariables false
set_option linter.unusedSimpArgs false
attribute [local go_sem] over_cell over_frozen field_k field_n
theorem tmap_nil (lo hi : Int) (r : Row4) (w : World) : Calls Try.prog 16 #[.pointer none, .int .i64 lo, .int .i64 hi, agg4 r] w fun e w' => e = .returned (.tuple #[.int .i64 0, .int .i64 2]) ∧ Below w.heap.size w w' := by
  have hB := fun o => b_alloc (Below.refl w.heap.size w) o
  unfold agg4
  go_enter Try.func16, Try.ntmps16
  go_wp2_with fail
  go_ret2
  exact ⟨rfl, hB _⟩
theorem tmap_bad {w : World} (b : Nat) (lo hi : Int) (r : Row4) (hm : mayR r = false) : Calls Try.prog 16 #[tp b, .int .i64 lo, .int .i64 hi, agg4 r] w fun e w' => e = .returned (.tuple #[.int .i64 0, .int .i64 1]) ∧ Below w.heap.size w w' := by
  obtain ⟨rk, rc, ro, rn⟩ := r
  have hbw : Below w.heap.size w (w.alloc (.cells #[.int .i64 rk, .int .i64 rc, .int .i64 ro, .int .i64 rn] 36)) := b_alloc (Below.refl _ _) _
  unfold agg4 tp
  simp only
  cases hf : isF rk with
  | false =>
    have HF := Lib.hid hf
    clear hf hm
    go_enter Try.func16, Try.ntmps16
    go_wp2_with fail
    refine (first_any ⟨rk, rc, ro, rn⟩ _).mono ?_
    rintro e w1 ⟨rfl, hb1⟩
    rw [show isF (⟨rk, rc, ro, rn⟩ : Row4).k = false from HF.out]
    have hB1 := b_call hbw hb1
    obtain ⟨d0, d1, d2, d3, df⟩ := blk4 (blk_born hb1)
    go_wp2_with fail
    go_ret2
    exact ⟨rfl, hB1⟩
  | true =>
    have HF := Lib.hid hf
    rcases (show rn < 1 ∨ (1 ≤ rn ∧ 256 < rn) by
      rcases (show rn < 1 ∨ (1 ≤ rn ∧ 256 < rn) ∨ (1 ≤ rn ∧ rn ≤ 256) by omega) with q | q | q
      · exact Or.inl q
      · exact Or.inr q
      · have := (mayR_iff ⟨rk, rc, ro, rn⟩).2 ⟨hf, q⟩; rw [hm] at this; cases this) with q | ⟨q1, q2⟩
    all_goals
      clear hf hm
      go_enter Try.func16, Try.ntmps16
      go_wp2_with fail
      refine (first_any ⟨rk, rc, ro, rn⟩ _).mono ?_
      rintro e w1 ⟨rfl, hb1⟩
      rw [show isF (⟨rk, rc, ro, rn⟩ : Row4).k = true from HF.out]
      have hB1 := b_call hbw hb1
      obtain ⟨d0, d1, d2, d3, df⟩ := blk4 (blk_born hb1)
      go_wp2_with fail
      go_ret2
      exact ⟨rfl, hB1⟩
theorem tmap_full {w : World} {b g cap : Nat} {L : List Row4} (h : TabAt w b g cap L) (lo hi : Int) (r : Row4) (hm : mayR r = true) (hp : IsPlace L lo hi r.n.toNat (-1)) :
    Calls Try.prog 16 #[tp b, .int .i64 lo, .int .i64 hi, agg4 r] w fun e w' => e = .returned (.tuple #[.int .i64 0, .int .i64 5]) ∧ Below w.heap.size w w' := by
  rw [mayR_iff] at hm
  obtain ⟨hf, h1, h2⟩ := hm
  obtain ⟨rk, rc, ro, rn⟩ := r
  simp only at hf h1 h2 hp
  obtain ⟨n, rfl⟩ : ∃ n : Nat, rn = n := ⟨rn.toNat, by omega⟩
  rw [Int.toNat_natCast] at hp
  have HT := Lib.hid h
  have HF := Lib.hid hf
  have HU : Hid (∀ p, IsPlace L (cutL lo) (cutH L.length lo hi) n p → p = -1) := Lib.hid (fun p hp' => by
    refine place_eq ?_ hp
    rcases hp' with ⟨e, q⟩ | ⟨k', e, q1, q2⟩
    · exact Or.inl ⟨e, fun j hj => q j ((fits_cut (by omega)).2 hj)⟩
    · exact Or.inr ⟨k', e, (fits_cut (by omega)).1 q1, fun j hj hj' => q2 j hj ((fits_cut (by omega)).2 hj')⟩)
  have HCU : Hid (∀ w', Below w.heap.size w w' → Calls Try.prog 30 #[tp b, .int .i64 lo, .int .i64 hi] w' fun e w2 => e = .returned (.tuple #[.int .i64 (cutL lo), .int .i64 (cutH L.length lo hi)]) ∧ w' = w2) := Lib.hid (fun w' hb => tcut_any (tab_below HT.out hb) lo hi)
  have HPL : Hid (∀ w', Below w.heap.size w w' → Calls Try.prog 33 #[tp b, .int .i64 (cutL lo), .int .i64 (cutH L.length lo hi), .int .i64 n] w' (PlaceRet L (cutL lo) (cutH L.length lo hi) n w')) := Lib.hid (fun w' hb => tplace_any (tab_below HT.out hb) _ _ n (cut_bd L.length lo hi).1 (cut_bd L.length lo hi).2.2 (by omega) (by omega))
  clear h hf hp
  unfold tp agg4 at *
  simp only
  have hbw : Below w.heap.size w (w.alloc (.cells #[.int .i64 rk, .int .i64 rc, .int .i64 ro, .int .i64 n] 36)) := b_alloc (Below.refl _ _) _
  go_enter Try.func16, Try.ntmps16
  go_wp2_with fail
  refine (first_any ⟨rk, rc, ro, n⟩ _).mono ?_
  rintro e w1 ⟨rfl, hb1⟩
  rw [show isF (⟨rk, rc, ro, n⟩ : Row4).k = true from HF.out]
  have hB1 := b_call hbw hb1
  obtain ⟨d0, d1, d2, d3, df⟩ := blk4 (blk_born hb1)
  go_wp2_with fail
  refine (HCU.out _ hB1).mono ?_
  rintro e w2 ⟨rfl, rfl⟩
  go_wp2_with fail
  refine (HPL.out _ hB1).mono ?_
  rintro e w2 ⟨p, hp, rfl, hb2⟩
  have hB2 := b_call hB1 hb2
  rw [HU.out p hp, show okR (-1) = false from rfl, show atR (-1) = 0 from rfl]
  go_wp2_with fail
  go_ret2
  exact ⟨rfl, hB2⟩
theorem tunmap_nil (a : Int) (w : World) : Calls Try.prog 21 #[.pointer none, .int .i64 a] w fun e w' => e = .returned (.int .i64 2) ∧ Below w.heap.size w w' := by
  go_enter Try.func21, Try.ntmps21
  go_wp2_with fail
  refine (trow_nil _ _).mono ?_
  rintro e w1 ⟨rfl, hb1⟩
  unfold agg4
  go_wp2_with fail
  go_ret
  exact ⟨rfl, by (repeat' (first | exact Below.refl _ _ | assumption | refine b_alloc ?_ _ | refine b_over ?_ _ | refine b_drew ?_ | refine b_call ?_ (by assumption)))⟩
theorem tunmap_no {w : World} {b g cap : Nat} {L : List Row4} (h : TabAt w b g cap L) (a : Int) (hf : isF (rowI L a).k = false) : Calls Try.prog 21 #[tp b, .int .i64 a] w fun e w' => e = .returned (.int .i64 6) ∧ Below w.heap.size w w' := by
  have HR := Lib.hid (trow_any h a)
  have HF := Lib.hid hf
  clear h hf
  generalize rowI L a = r at *
  unfold tp at *
  go_enter Try.func21, Try.ntmps21
  go_wp2_with fail
  refine HR.out.mono ?_
  rintro e w1 ⟨rfl, hb1⟩
  unfold agg4
  go_wp2_with fail
  refine (first_any r _).mono ?_
  rintro e w2 ⟨rfl, hb2⟩
  rw [HF.out]
  go_wp2_with fail
  go_ret
  exact ⟨rfl, b_call (b_alloc hb1 _) hb2⟩
def cleared (L : List Row4) (k n : Nat) : List Row4 := lay L k (List.replicate n zr)
theorem zeroR (w : World) : (zeroValue 36).run Try.prog w = .ok (agg4 zr) w := by kernel_rfl
theorem tunmap_ok {w : World} {b g cap : Nat} {L : List Row4} (h : TabAt w b g cap L) (k : Nat) (r : Row4) (hr : rowI L (k : Int) = r) (hk : k < L.length) (hf : isF r.k = true) (h1 : 1 ≤ r.n) (h2 : k + r.n ≤ L.length) :
    Calls Try.prog 21 #[tp b, .int .i64 k] w fun e w' => e = .returned (.int .i64 0) ∧ TabAt w' b g cap (cleared L k r.n.toNat) ∧ w.grownBy w' (some g) := by
  have HR := trow_any h (k : Int)
  rw [hr] at HR
  replace HR := Lib.hid HR
  obtain ⟨rk, rc, ro, rn⟩ := r
  simp only at hf h1 h2 hr
  obtain ⟨n, rfl⟩ : ∃ n : Nat, rn = n := ⟨rn.toNat, by omega⟩
  have HF := Lib.hid hf
  have HT := Lib.hid h
  have hb := h.hd.1
  have hg := h.rw.1
  have hmx := h.mx
  have hcl := h.le
  have hcm : cap ≤ 9223372036854775807 := cap_le h.cp
  have hne := h.ne
  simp only [Int.toNat_natCast]
  clear h hf hr
  unfold tp at *
  go_enter Try.func21, Try.ntmps21
  go_wp2_with fail
  refine HR.out.mono ?_
  rintro e w1 ⟨rfl, hb1⟩
  unfold agg4
  simp only
  go_wp2_with fail
  refine (first_any ⟨rk, rc, ro, n⟩ _).mono ?_
  rintro e w2 ⟨rfl, hb2⟩
  rw [show isF (⟨rk, rc, ro, n⟩ : Row4).k = true from HF.out]
  have hB2 := b_call (b_alloc hb1 _) hb2
  have T2 := tab_below HT.out hB2
  obtain ⟨c0, hfz⟩ := blk1 T2.hd
  obtain ⟨d0, d1, d2, d3, df⟩ := blk4 (blk_born hb2)
  have gf := T2.rw.2.2
  have k0 : (0 : Int) ≤ k := by omega
  have k1 : (k : Int) < L.length := by omega
  have k2 : (k : Int) ≤ cap := by omega
  have n0 : (1 : Int) ≤ n := by omega
  have kn : (k : Int) + n ≤ cap := by omega
  have kn2 : (k : Int) + n ≤ 256 := by omega
  have kc : ¬ cap = k := by omega
  have hclr : ∀ ty c, (Builtin.clear_ #[53] ty #[.slice (some ⟨g, k * 4, none⟩) n c]).run Try.prog w2 = .ok (.tuple #[]) (w2.setCells g (k * 4) (quad.row (List.replicate n zr))) := fun ty c => run_clearR (c := quad) rowT zeroR zr rfl T2.rw (by omega) (by omega)
  have hclr2 : ∀ ty c, (Builtin.clear_ #[53] ty #[.slice (some ⟨g, k * 4, none⟩) n c]).run Try.prog w2.drew = .ok (.tuple #[]) (w2.drew.setCells g (k * 4) (quad.row (List.replicate n zr))) := fun ty c => run_clearR (c := quad) rowT zeroR zr rfl (blk_drew T2.rw) (by omega) (by omega)
  have HT2 := Lib.hid T2
  clear T2
  go_wp2_with fail
  go_region
  refine then_world (w2.drew.setCells g (k * 4) (quad.row (List.replicate n zr))) rfl ?_
  intro w3 hw3
  have T3 : TabAt w3 b g cap (cleared L k n) := by rw [hw3]; exact tab_put (M := List.replicate n zr) (tab_drew HT2.out) k (by simp; omega)
  have G3 : w.grownBy w3 (some g) := by rw [hw3]; exact gb_sets _ _ (gb_drew (gb_of hB2 _))
  clear hw3 hclr hclr2 c0 hfz d0 d1 d2 d3 df gf
  go_wp2_with fail
  go_ret
  exact ⟨rfl, T3, G3⟩
theorem sclone_any {w : World} {v : Value} {L : List Row4} (h : ReadR quad w v L) (hnn : v ≠ .slice none 0 0) (hl : L.length ≤ 256) : Calls Try.prog 32 #[v] w fun e w' => ∃ g cap, e = .returned (.slice (some ⟨g, 0, none⟩) L.length cap) ∧ w.heap.size ≤ g ∧ L.length ≤ cap ∧ cap ≤ maxLen ∧ Blk w' g (quad.row L) ∧ Below w.heap.size w w' := by
  obtain ⟨a, cap, rfl, h1, h2, h3, h4⟩ := h
  have hr : ReadR quad w (.slice a L.length cap) L := ⟨a, cap, rfl, h1, h2, h3, h4⟩
  cases a with
  | none =>
    have := h3 rfl
    subst this
    have e : L.length = 0 := by omega
    rw [e] at hnn; exact absurd rfl hnn
  | some ad =>
    have t0 := fun (w : World) => Lib.run_eql_slice_nil (P := Try.prog) w 53 36 (some ad) L.length cap 0 0 Try.underlying53
    simp only [Option.isNone_some] at t0
    clear h4 hnn h3
    rcases Nat.eq_zero_or_pos L.length with hz | hz
    · have e : L = [] := List.eq_nil_of_length_eq_zero hz
      subst e
      simp only [List.length_nil] at t0
      clear hr hz hl h1
      go_enter Try.func32, Try.ntmps32
      go_wp2_with (at_builtin; refine appendR0 (c := quad) rowT rfl _ _ rfl w.heap.size ad cap rfl rfl ?_)
      go_ret
      exact ⟨w.heap.size, 0, rfl, Nat.le_refl _, Nat.le_refl _, Nat.zero_le _, blk_new w #[] _, b_alloc (Below.refl _ _) _⟩
    · go_enter Try.func32, Try.ntmps32
      go_wp2_with (at_builtin; refine appendR rowT rfl _ _ rfl w.heap.size _ [] rfl (own_emptyR (Nat.le_refl _)) _ L rfl (readR_below hr (b_alloc (Below.refl _ _) _)) ?c1 ?c2 ?c3 ?_; (case c1 => (simp; omega)); (case c2 => (unfold maxLen; simp; omega)); (case c3 => (simp)); intro v1 w1 hown1 hg1)
      rw [List.nil_append] at hown1
      obtain ⟨g, cap1, rfl, f1, f2, f3, f4, f5⟩ := ownR_form hown1 hz
      go_ret
      exact ⟨g, cap1, rfl, f1, f3, f4, f5, b_ownR (b_alloc (Below.refl _ _) _) (own_emptyR (c := quad) (E := 36) (Nat.le_refl _)) hg1⟩
theorem tcopy_nil (w : World) : Calls Try.prog 15 #[.pointer none] w fun e w' => e = .returned (.pointer none) ∧ w = w' := by
  go_enter Try.func15, Try.ntmps15
  go_wp2_with fail
  go_ret
  exact ⟨rfl, rfl⟩
theorem tcopy_any {w : World} {b g cap : Nat} {L : List Row4} (h : TabAt w b g cap L) : Calls Try.prog 15 #[tp b] w (NewTab w L) := by
  have hsc := sclone_any (tab_read h) (by intro e; cases e) h.mx
  obtain ⟨c0, hf⟩ := blk1 h.hd
  have hmx := h.mx
  have H := Lib.hid h
  clear h
  unfold tp
  go_enter Try.func15, Try.ntmps15
  go_wp2_with fail
  refine hsc.mono ?_
  rintro e w1 ⟨g1, cap1, rfl, f1, f3, f4, f5, hb1⟩
  have hB := b_alloc hb1 (.cells #[.slice (some ⟨g1, 0, none⟩) L.length cap1] 55)
  have hq := blk_new w1 #[.slice (some ⟨g1, 0, none⟩) L.length cap1] 55
  have hg1 := f5.1
  have hs := hb1.size
  have F5 := Lib.hid (blk_alloc f5 (.cells #[.slice (some ⟨g1, 0, none⟩) L.length cap1] 55))
  have HQ := Lib.hid hq
  clear f5 hq
  go_wp2_with fail
  go_ret
  exact ⟨w1.heap.size, g1, cap1, rfl, ⟨HQ.out, F5.out, by omega, f3, f4, hmx⟩, hs, f1, hB⟩
def samePt (n : Nat) : Bool := decide (n = 0)
theorem tsame_left {w : World} {b g cap : Nat} {L : List Row4} (h : TabAt w b g cap L) : Calls Try.prog 22 #[.pointer none, tp b] w fun e w' => e = .returned (.bool (decide (L.length = 0))) ∧ w = w' := by
  have hl := tlen_any h
  clear h
  unfold tp at *
  rcases Nat.eq_zero_or_pos L.length with q | q
  · rw [q] at hl
    rw [q]
    go_enter Try.func22, Try.ntmps22
    go_wp2_with fail
    refine (tlen_nil _).mono ?_
    rintro e w1 ⟨rfl, rfl⟩
    go_wp2_with fail
    refine hl.mono ?_
    rintro e w1 ⟨rfl, rfl⟩
    go_wp2_with fail
    go_ret
    exact ⟨rfl, rfl⟩
  · have e : decide (L.length = 0) = false := decide_eq_false (by omega)
    rw [e]
    have t0 : ((L.length : Int) == 0) = false := by rw [beq_eq_false_iff_ne]; omega
    clear e
    go_enter Try.func22, Try.ntmps22
    go_wp2_with fail
    refine (tlen_nil _).mono ?_
    rintro e w1 ⟨rfl, rfl⟩
    go_wp2_with fail
    refine hl.mono ?_
    rintro e w1 ⟨rfl, rfl⟩
    go_wp2_with fail
    go_ret
    exact ⟨rfl, rfl⟩
theorem tsame_right {w : World} {b g cap : Nat} {L : List Row4} (h : TabAt w b g cap L) (hn : 0 < L.length) : Calls Try.prog 22 #[tp b, .pointer none] w fun e w' => e = .returned (.bool false) ∧ w = w' := by
  have hl := tlen_any h
  clear h
  unfold tp at *
  have t0 : ((L.length : Int) == 0) = false := by rw [beq_eq_false_iff_ne]; omega
  go_enter Try.func22, Try.ntmps22
  go_wp2_with fail
  refine hl.mono ?_
  rintro e w1 ⟨rfl, rfl⟩
  go_wp2_with fail
  go_ret
  exact ⟨rfl, rfl⟩
end Go.Proofs.Ytfbdnjmljdfjjaa
