/- Layer 4: one call of both. Conditions: at most 256 pages; a whole table. -/
import Derived.Test.YtfbdnjmljdfjjaaPageX
namespace Go.Proofs.Ytfbdnjmljdfjjaa
open Go.RowKit
set_option linter.unusedVariables false
set_option linter.unusedSimpArgs false
attribute [local go_sem] over_cell over_frozen field_k field_n
/-- What a call is told. -/
structure OpP where
  k : Int
  a : Int
  lo : Int
  hi : Int
  r : Row4
def cellsO (o : OpP) : Array Value := #[.int .i64 o.k, .int .i64 o.a, .int .i64 o.lo, .int .i64 o.hi, .int .i64 o.r.k, .int .i64 o.r.c, .int .i64 o.r.o, .int .i64 o.r.n]
structure Pair (w : World) (b g cap g1 cap1 : Nat) (L : List Row4) : Prop where
  t : TabAt w b g cap L
  r : RL w g1 cap1 L
  n1 : g1 ≠ g
  n2 : g1 ≠ b
  wf : WF L
theorem pair_below {w w' : World} {b g cap g1 cap1 : Nat} {L : List Row4} (h : Pair w b g cap g1 cap1 L) (hb : Below w.heap.size w w') : Pair w' b g cap g1 cap1 L := ⟨tab_below h.t hb, rl_below h.r hb, h.n1, h.n2, h.wf⟩
def StepRet (w : World) (b g cap g1 cap1 : Nat) (L : List Row4) (e : Ending) (w' : World) : Prop :=
  ∃ L2 g2 cap2, e = .returned (.tuple #[rv g2 L2 cap2, .bool true]) ∧ Pair w' b g cap g2 cap2 L2 ∧ (g2 = g1 ∨ w.heap.size ≤ g2) ∧ L2.length = L.length ∧ w.grownBy w' (some g)
theorem step_same {w w' : World} {b g cap g1 cap1 : Nat} {L : List Row4} (h : Pair w b g cap g1 cap1 L) (hb : Below w.heap.size w w') : StepRet w b g cap g1 cap1 L (.returned (.tuple #[rv g1 L cap1, .bool true])) w' :=
  ⟨L, g1, cap1, rfl, pair_below h hb, Or.inl rfl, rfl, gb_of hb _⟩
theorem blk8 {w : World} {g : Nat} {u0 u1 u2 u3 u4 u5 u6 u7 : Value} (h : Blk w g [u0, u1, u2, u3, u4, u5, u6, u7]) : w.cell? ⟨g, 0, none⟩ = some u0 ∧ w.cell? ⟨g, 1, none⟩ = some u1 ∧ w.cell? ⟨g, 2, none⟩ = some u2 ∧ w.cell? ⟨g, 3, none⟩ = some u3 ∧ w.cell? ⟨g, 4, none⟩ = some u4 ∧ w.cell? ⟨g, 5, none⟩ = some u5 ∧ w.cell? ⟨g, 6, none⟩ = some u6 ∧ w.cell? ⟨g, 7, none⟩ = some u7 := ⟨h.2.1 0 (by simp), h.2.1 1 (by simp), h.2.1 2 (by simp), h.2.1 3 (by simp), h.2.1 4 (by simp), h.2.1 5 (by simp), h.2.1 6 (by simp), h.2.1 7 (by simp)⟩
theorem step_bad {w : World} {b g cap g1 cap1 : Nat} {L : List Row4} (h : Pair w b g cap g1 cap1 L) (k a lo hi rk rc ro rn : Int) (hk : k = 0 ∨ k = 1 ∨ k = 2) (hm : mayR ⟨rk, rc, ro, rn⟩ = false) :
    Calls Try.prog 9 #[tp b, rv g1 L cap1, .agg #[.int .i64 k, .int .i64 a, .int .i64 lo, .int .i64 hi, .int .i64 rk, .int .i64 rc, .int .i64 ro, .int .i64 rn]] w (StepRet w b g cap g1 cap1 L) := by
  have HP := Lib.hid h
  have HM := Lib.hid hm
  have HOUR : Hid (∀ w, Calls Try.prog 23 #[.agg #[.int .i64 rk, .int .i64 rc, .int .i64 ro, .int .i64 rn]] w fun e w' => e = .returned (.agg #[.int .i64 rk, .int .i64 rc, .int .i64 ro, .int .i64 rn]) ∧ Below w.heap.size w w') := Lib.hid (fun w => ours_any ⟨rk, rc, ro, rn⟩ w)
  have HMAP : Hid (∀ w, Calls Try.prog 16 #[.pointer (some ⟨b, 0, none⟩), .int .i64 lo, .int .i64 hi, .agg #[.int .i64 rk, .int .i64 rc, .int .i64 ro, .int .i64 rn]] w fun e w' => e = .returned (.tuple #[.int .i64 0, .int .i64 1]) ∧ Below w.heap.size w w') := Lib.hid (fun w => tmap_bad b lo hi ⟨rk, rc, ro, rn⟩ HM.out)
  have HMAY : Hid (∀ w, Calls Try.prog 24 #[.agg #[.int .i64 rk, .int .i64 rc, .int .i64 ro, .int .i64 rn]] w fun e w' => e = .returned (.bool false) ∧ Below w.heap.size w w') := Lib.hid (fun w => by have := rmay_any ⟨rk, rc, ro, rn⟩ w; rw [HM.out] at this; exact this)
  clear h hm
  have HFIN : Hid (∀ w', Below w.heap.size w w' → StepRet w b g cap g1 cap1 L (.returned (.tuple #[.slice (some ⟨g1, 0, none⟩) L.length cap1, .bool true])) w') := Lib.hid (fun w' hb => step_same HP.out hb)
  unfold rv tp
  have hB := b_alloc (Below.refl w.heap.size w) (.cells #[.int .i64 k, .int .i64 a, .int .i64 lo, .int .i64 hi, .int .i64 rk, .int .i64 rc, .int .i64 ro, .int .i64 rn] 30)
  rcases hk with rfl | rfl | rfl
  all_goals
    go_enter Try.func9, Try.ntmps9
    go_upto_region 5 with fail
    refine wp_region_over_lit (by kernel_rfl) (by kernel_rfl) ?_
    repeat (quiet_step ((first | (go_at_call 16; exact over_call (HMAP.out _)) | (go_at_call 23; exact over_call (HOUR.out _)))))
    refine wpQuiet_nil ?_
    intro w3 hb3; replace hb3 := over_elim hb3; obtain ⟨hc3, hf3⟩ := bcell hb3; have hz3 := hb3.size; try simp only [World.size_alloc, World.size_setCell, World.size_drew] at hz3
    have hB3 := b_call hB hb3
    go_wp2_with fail
    refine (HMAY.out _).mono ?_
    rintro e w4 ⟨rfl, hb4⟩
    have hB4 := b_call hB3 hb4
    go_wp2_with fail
    go_ret2
    exact HFIN.out _ hB4
theorem step_full {w : World} {b g cap g1 cap1 : Nat} {L : List Row4} (h : Pair w b g cap g1 cap1 L) (k a lo hi rk rc ro rn : Int) (hk : k = 0 ∨ k = 1 ∨ k = 2) (hm : mayR ⟨rk, rc, ro, rn⟩ = true) (hp : IsPlace L lo hi rn.toNat (-1)) :
    Calls Try.prog 9 #[tp b, rv g1 L cap1, .agg #[.int .i64 k, .int .i64 a, .int .i64 lo, .int .i64 hi, .int .i64 rk, .int .i64 rc, .int .i64 ro, .int .i64 rn]] w (StepRet w b g cap g1 cap1 L) := by
  have HP := Lib.hid h
  have HM := Lib.hid hm
  have hm2 := (mayR_iff _).1 hm
  obtain ⟨hm2, hm3, hm4⟩ := hm2
  simp only at hm2 hm3 hm4
  obtain ⟨n, rfl⟩ : ∃ n : Nat, rn = n := ⟨rn.toNat, by omega⟩
  rw [Int.toNat_natCast] at hp
  have HPL := Lib.hid hp
  have HOUR : Hid (∀ w, Calls Try.prog 23 #[.agg #[.int .i64 rk, .int .i64 rc, .int .i64 ro, .int .i64 n]] w fun e w' => e = .returned (.agg #[.int .i64 rk, .int .i64 rc, .int .i64 ro, .int .i64 n]) ∧ Below w.heap.size w w') := Lib.hid (fun w => ours_any ⟨rk, rc, ro, n⟩ w)
  have HMAP : Hid (∀ w', Below w.heap.size w w' → Calls Try.prog 16 #[.pointer (some ⟨b, 0, none⟩), .int .i64 lo, .int .i64 hi, .agg #[.int .i64 rk, .int .i64 rc, .int .i64 ro, .int .i64 n]] w' fun e w2 => e = .returned (.tuple #[.int .i64 0, .int .i64 5]) ∧ Below w'.heap.size w' w2) := Lib.hid (fun w' hb => tmap_full (tab_below HP.out.t hb) lo hi ⟨rk, rc, ro, n⟩ HM.out HPL.out)
  have HMAY : Hid (∀ w, Calls Try.prog 24 #[.agg #[.int .i64 rk, .int .i64 rc, .int .i64 ro, .int .i64 n]] w fun e w' => e = .returned (.bool true) ∧ Below w.heap.size w w') := Lib.hid (fun w => by have := rmay_any ⟨rk, rc, ro, n⟩ w; rw [HM.out] at this; exact this)
  have HPLC : Hid (∀ w', Below w.heap.size w w' → Calls Try.prog 25 #[.slice (some ⟨g1, 0, none⟩) L.length cap1, .int .i64 lo, .int .i64 hi, .int .i64 n] w' fun e w2 => e = .returned (.int .i64 (-1)) ∧ w' = w2) := Lib.hid (fun w' hb => (rplace_any (rl_below HP.out.r hb) lo hi n (by omega) (by omega)).mono fun e w2 ⟨r, hr, he, hw⟩ => ⟨by rw [he, place_eq hr HPL.out], hw⟩)
  clear h hm hp
  have HFIN : Hid (∀ w', Below w.heap.size w w' → StepRet w b g cap g1 cap1 L (.returned (.tuple #[.slice (some ⟨g1, 0, none⟩) L.length cap1, .bool true])) w') := Lib.hid (fun w' hb => step_same HP.out hb)
  unfold rv tp
  have BX := blk_new w #[.int .i64 k, .int .i64 a, .int .i64 lo, .int .i64 hi, .int .i64 rk, .int .i64 rc, .int .i64 ro, .int .i64 n] 30
  have HBX := Lib.hid BX; clear BX
  have hB := b_alloc (Below.refl w.heap.size w) (.cells #[.int .i64 k, .int .i64 a, .int .i64 lo, .int .i64 hi, .int .i64 rk, .int .i64 rc, .int .i64 ro, .int .i64 n] 30)
  rcases hk with rfl | rfl | rfl
  all_goals
    go_enter Try.func9, Try.ntmps9
    go_upto_region 5 with fail
    refine wp_region_over_lit (by kernel_rfl) (by kernel_rfl) ?_
    repeat (quiet_step ((first | (go_at_call 16; exact over_call (HMAP.out _ (b_over hB _))) | (go_at_call 23; exact over_call (HOUR.out _)))))
    refine wpQuiet_nil ?_
    intro w3 hb3; replace hb3 := over_elim hb3; obtain ⟨hc3, hf3⟩ := bcell hb3; have hz3 := hb3.size; try simp only [World.size_alloc, World.size_setCell, World.size_drew] at hz3
    have hB3 := b_call hB hb3
    go_wp2_with fail
    refine (HMAY.out _).mono ?_
    rintro e w4 ⟨rfl, hb4⟩
    have hB4 := b_call hB3 hb4
    obtain ⟨x0, x1, x2, x3, x4, x5, x6, x7⟩ := blk8 (blk_below (blk_below HBX.out hb3) hb4)
    go_wp2_with fail
    refine (HPLC.out _ hB4).mono ?_
    rintro e w5 ⟨rfl, rfl⟩
    go_wp2_with fail
    go_ret2
    exact HFIN.out _ hB4
theorem step_ok {w : World} {b g cap g1 cap1 : Nat} {L : List Row4} (h : Pair w b g cap g1 cap1 L) (k a lo hi rk rc ro rn : Int) (p : Nat) (hk : k = 0 ∨ k = 1 ∨ k = 2) (hm : mayR ⟨rk, rc, ro, rn⟩ = true) (hp : IsPlace L lo hi rn.toNat (p : Int)) :
    Calls Try.prog 9 #[tp b, rv g1 L cap1, .agg #[.int .i64 k, .int .i64 a, .int .i64 lo, .int .i64 hi, .int .i64 rk, .int .i64 rc, .int .i64 ro, .int .i64 rn]] w (StepRet w b g cap g1 cap1 L) := by
  have HP := Lib.hid h
  have HM := Lib.hid hm
  have hm2 := (mayR_iff _).1 hm
  obtain ⟨hm2, hm3, hm4⟩ := hm2
  simp only at hm2 hm3 hm4
  obtain ⟨n, rfl⟩ : ∃ n : Nat, rn = n := ⟨rn.toNat, by omega⟩
  rw [Int.toNat_natCast] at hp
  have HPL := Lib.hid hp
  have hfit : Fits L lo hi n p := by
    rcases hp with ⟨e, _⟩ | ⟨k', e, q, _⟩
    · omega
    · rw [show p = k' by omega]; exact q
  have hpn : (p : Int) + n ≤ L.length := by have := hfit.1; omega
  have HWF : Hid (WF (laid L p ⟨rk, rc, ro, n⟩)) := wf_laid h.wf hm (by simpa using hfit)
  have HLEN : Hid ((laid L p ⟨rk, rc, ro, n⟩).length = L.length) := laid_length hm3 hpn
  have HOUR : Hid (∀ w, Calls Try.prog 23 #[.agg #[.int .i64 rk, .int .i64 rc, .int .i64 ro, .int .i64 n]] w fun e w' => e = .returned (.agg #[.int .i64 rk, .int .i64 rc, .int .i64 ro, .int .i64 n]) ∧ Below w.heap.size w w') := Lib.hid (fun w => ours_any ⟨rk, rc, ro, n⟩ w)
  have HMAP : Hid (∀ w', Below w.heap.size w w' → Calls Try.prog 16 #[.pointer (some ⟨b, 0, none⟩), .int .i64 lo, .int .i64 hi, .agg #[.int .i64 rk, .int .i64 rc, .int .i64 ro, .int .i64 n]] w' fun e w2 => e = .returned (.tuple #[.int .i64 p, .int .i64 0]) ∧ TabAt w2 b g cap (laid L p ⟨rk, rc, ro, n⟩) ∧ w'.grownBy w2 (some g)) := Lib.hid (fun w' hb => tmap_ok (tab_below HP.out.t hb) lo hi ⟨rk, rc, ro, n⟩ p HM.out (by simpa using HPL.out))
  have HMAY : Hid (∀ w, Calls Try.prog 24 #[.agg #[.int .i64 rk, .int .i64 rc, .int .i64 ro, .int .i64 n]] w fun e w' => e = .returned (.bool true) ∧ Below w.heap.size w w') := Lib.hid (fun w => by have := rmay_any ⟨rk, rc, ro, n⟩ w; rw [HM.out] at this; exact this)
  have HPLC : Hid (∀ w', RL w' g1 cap1 L → Calls Try.prog 25 #[.slice (some ⟨g1, 0, none⟩) L.length cap1, .int .i64 lo, .int .i64 hi, .int .i64 n] w' fun e w2 => e = .returned (.int .i64 p) ∧ w' = w2) := Lib.hid (fun w' hr => (rplace_any hr lo hi n (by omega) (by omega)).mono fun e w2 ⟨r, hr, he, hw⟩ => ⟨by rw [he, place_eq hr HPL.out], hw⟩)
  have HLAY : Hid (∀ w', RL w' g1 cap1 L → Calls Try.prog 26 #[.slice (some ⟨g1, 0, none⟩) L.length cap1, .int .i64 p, .agg #[.int .i64 rk, .int .i64 rc, .int .i64 ro, .int .i64 n]] w' (NewL w' (laid L p ⟨rk, rc, ro, n⟩))) := Lib.hid (fun w' hr => rlay_any hr p ⟨rk, rc, ro, n⟩ hm3 hpn)
  have hg := h.t.rw.1
  have hb := h.t.hd.1
  have hg1 := h.r.rw.1
  have hn1 := h.n1
  have hn2 := h.n2
  generalize laid L p ⟨rk, rc, ro, n⟩ = LL at *
  clear h hm hp hfit hpn
  unfold rv tp
  have BX := blk_new w #[.int .i64 k, .int .i64 a, .int .i64 lo, .int .i64 hi, .int .i64 rk, .int .i64 rc, .int .i64 ro, .int .i64 n] 30
  have hB := b_alloc (Below.refl w.heap.size w) (.cells #[.int .i64 k, .int .i64 a, .int .i64 lo, .int .i64 hi, .int .i64 rk, .int .i64 rc, .int .i64 ro, .int .i64 n] 30)
  have hne : some w.heap.size ≠ some g := fun e => by injection e with e; omega
  have hne1 : some g1 ≠ some g := fun e => by injection e with e; exact hn1 e
  have HBX := Lib.hid BX; clear BX
  rcases hk with rfl | rfl | rfl
  all_goals
    go_enter Try.func9, Try.ntmps9
    go_upto_region 5 with fail
    go_region_held3 (fun w' => w'.cell? ⟨w.heap.size, 2, none⟩ = some (.int .i64 lo) ∧ w'.cell? ⟨w.heap.size, 3, none⟩ = some (.int .i64 hi) ∧ w'.cell? ⟨w.heap.size, 4, none⟩ = some (.int .i64 rk) ∧ w'.cell? ⟨w.heap.size, 5, none⟩ = some (.int .i64 rc) ∧ w'.cell? ⟨w.heap.size, 6, none⟩ = some (.int .i64 ro) ∧ w'.cell? ⟨w.heap.size, 7, none⟩ = some (.int .i64 n))
      (first | (exact (blk8 (blk_drew HBX.out)).2.2) | (exact (blk8 (blk_below (blk_drew HBX.out) hb4)).2.2) | (exact (blk8 (blk_grown (blk_below (blk_drew HBX.out) hb4) G5 hne)).2.2))
      (first
        | (go_at_call 23; refine (HOUR.out _).mono ?_; rintro e w4 ⟨rfl, hb4⟩)
        | (go_at_call 16; refine (HMAP.out _ (b_call (b_drew hB) hb4)).mono ?_; rintro e w5 ⟨rfl, T5, G5⟩))
    have hB4 := b_call (b_drew hB) hb4
    have hs4 := hB4.size
    have BX5 := blk_grown (blk_below (blk_drew HBX.out) hb4) G5 hne
    have HBX5 := Lib.hid BX5
    have R5 := rl_grown (rl_below HP.out.r hB4) G5 hne1
    have GW5 := below_gb hB4 G5
    obtain ⟨x0, x1, x2, x3, x4, x5, x6, x7⟩ := blk8 BX5
    clear BX5 G5
    go_wp2_with fail
    refine (HMAY.out _).mono ?_
    rintro e w6 ⟨rfl, hb6⟩
    have BX6 := blk_below HBX5.out hb6
    have R6 := rl_below R5 hb6
    have T6 := tab_below T5 hb6
    have GW6 := gb_below GW5 hb6
    have HBX6 := Lib.hid BX6
    clear x0 x1 x2 x3 x4 x5 x6 x7 R5 T5 GW5
    obtain ⟨x0, x1, x2, x3, x4, x5, x6, x7⟩ := blk8 BX6
    clear BX6
    go_wp2_with fail
    refine (HPLC.out _ R6).mono ?_
    rintro e w7 ⟨rfl, rfl⟩
    go_wp2_with fail
    refine (HLAY.out _ R6).mono ?_
    rintro e w8 ⟨g2, cap2, rfl, R8, hg8, hb8⟩
    have T8 := tab_below T6 hb8
    have GW8 := gb_below GW6 hb8
    have hg6 := GW6.size
    unfold rv
    clear x0 x1 x2 x3 x4 x5 x6 x7 R6 T6 GW6
    go_wp2_with fail
    go_ret2
    exact ⟨LL, g2, cap2, rfl, ⟨T8, R8, by omega, by omega, HWF.out⟩, Or.inr (by omega), HLEN.out, GW8⟩
end Go.Proofs.Ytfbdnjmljdfjjaa
