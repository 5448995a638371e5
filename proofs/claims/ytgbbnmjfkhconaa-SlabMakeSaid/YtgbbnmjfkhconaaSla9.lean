/- SlabMake, walked. Conditions: the numbers are of their kinds. -/
import Derived.Test.YtgbbnmjfkhconaaSla7
namespace Go.Proofs.Ytgbbnmjfkhconaa
open Go.RowKit
set_option linter.unusedVariables false
set_option linter.unusedSimpArgs false
attribute [local go_sem] over_cell over_frozen
variable {w w' : World} {b : SlB} {m : SlM} {P Z N : Nat} {fl : List Nat}
set_option maxRecDepth 100000 in
set_option maxHeartbeats 8000000 in
theorem slabMake_any (pages page cl k : Int) (h0 : 0 ≤ pages ∧ pages < 256) (w : World) : Calls Try.prog 12 #[.int .u8 pages, .int .i64 page, .int .i64 cl, .int .i64 k] w fun e w' => e = .returned (.bool true) ∧ Below w.heap.size w w' := by
  obtain ⟨n, hn, hn5⟩ : ∃ n : Nat, pages % 5 = n ∧ n < 5 := ⟨(pages % 5).toNat, by omega, by omega⟩
  have ht : pages.tmod 5 = (n : Int) := by rw [Int.tmod_eq_emod_of_nonneg (by omega)]; exact hn
  have hwp : IntKind.i64.wrap pages = pages := by rw [IntKind.wrap_i64]; omega
  have HNA := Lib.hid (fun w => anew_any (n : Int) w)
  rw [pagesN_small (by omega)] at HNA
  have HNL := Lib.hid (fun w => new_any 1 (by omega) (by omega) w)
  obtain ⟨kk0, kk1⟩ := keyI_bd 1
  obtain ⟨L0, hL0⟩ : ∃ L0, L0 = List.replicate (256 * n) (0 : Int) := ⟨_, rfl⟩
  rw [← hL0] at HNA
  have hl : L0.length = 256 * n := by rw [hL0, List.length_replicate]
  have HSZ := Lib.hid (fun w => rsize_any cl w)
  have HBAD : Hid (¬ mkOk L0.length page cl → ∀ w' ab ag ac, AreAt w' ab ag ac L0 → w.heap.size ≤ ag → Calls Try.prog 60 #[tp ab, .agg #[.int .u64 (keyI 1)], .int .i64 page, .int .i64 cl, .int .i64 0] w' fun e w'' => ∃ sv, e = .returned (.tuple #[sv, .int .i64 1]) ∧ sv = .pointer none ∧ (Below w.heap.size w w' → Below w.heap.size w w'')) := Lib.hid (fun hb w' ab ag ac ha _ => by
    refine (smake_bad ha _ ⟨_, rfl⟩ page cl 0 hb).mono ?_
    rintro e w'' ⟨rfl, h2⟩
    exact ⟨_, rfl, rfl, fun h1 => b_call h1 h2⟩)
  have hm : (L0.length : Int) / 256 = n := by rw [hl]; omega
  by_cases hc : 0 ≤ cl ∧ cl < 4
  · obtain ⟨Z, N, hz⟩ := cls_of cl hc.1 hc.2
    rw [(cls_nums hz).1] at HSZ
    have hZ : (Z : Int) > 0 := by have := cls_bd hz; omega
    by_cases hp : 0 ≤ page ∧ page < n
    · have HMK : Hid (∀ w' ab ag ac, AreAt w' ab ag ac L0 → w.heap.size ≤ ag → Calls Try.prog 60 #[tp ab, .agg #[.int .u64 (keyI 1)], .int .i64 page, .int .i64 cl, .int .i64 0] w' fun e w'' => ∃ sv, e = .returned (.tuple #[sv, .int .i64 0]) ∧ (∃ bs, sv = sp bs) ∧ (Below w.heap.size w w' → Below w.heap.size w w'')) := Lib.hid (fun w' ab ag ac ha hag => by
        obtain ⟨q, rfl⟩ : ∃ q : Nat, page = q := ⟨page.toNat, by omega⟩
        refine (smake_ok (P := q) ha (keyI 1) kk0 kk1 cl 0 hz (by omega)).mono ?_
        rintro e w'' ⟨b, m, rfl, _, _, _, _, _, hgx⟩
        exact ⟨_, rfl, ⟨b.s, rfl⟩, fun h1 => b_gx h1 hgx (fun k hk => by rw [hk]; exact hag)⟩)
      obtain ⟨p0, p1⟩ := hp
      have p2 : page ≥ 0 := p0
      generalize keyI 1 = key at *
      clear hz hL0 hl hm HBAD hn
      go_enter Try.func12, Try.ntmps12
      go_wp2_with fail
      refine (HNA.out _).mono ?_
      rintro e w1 ⟨ab, ag, ac, rfl, ha1, n1, n2, hb1⟩
      have HA1 := Lib.hid ha1
      have HB1 := Lib.hid hb1
      have HN1 := Lib.hid (And.intro n1 n2)
      clear ha1 hb1 n1 n2
      unfold tp
      go_wp2_with fail
      refine (HNL.out _).mono ?_
      rintro e w2 ⟨rfl, hb2⟩
      have HA2 := Lib.hid (are_below HA1.out hb2)
      have HB2 := Lib.hid (b_call HB1.out hb2)
      clear hb2
      have HM2 := Lib.hid (HMK.out w2 ab ag ac HA2.out HN1.out.2)
      unfold tp at HM2
      go_wp2_with fail
      refine HM2.out.mono ?_
      rintro e w3 ⟨sv, rfl, hsv, hb3⟩
      have HB3 := Lib.hid (hb3 HB2.out)
      clear hb3 HM2
      obtain ⟨bs, rfl⟩ := hsv
      unfold sp
      go_wp2_with fail
      refine (HSZ.out _).mono ?_
      rintro e w4 ⟨rfl, rfl⟩
      go_wp2_with fail
      refine (HNL.out _).mono ?_
      rintro e w4 ⟨rfl, hb4⟩
      have HB4 := Lib.hid (b_call HB3.out hb4)
      clear hb4
      go_wp2_with fail
      refine (smake_nil _ ⟨_, rfl⟩ _ _ _ _).mono ?_
      rintro e w5 ⟨rfl, hb5⟩
      have HB5 := Lib.hid (b_call HB4.out hb5)
      clear hb5
      go_wp2_with fail
      refine (snil_take _).mono ?_
      rintro e w6 ⟨rfl, rfl⟩
      go_wp2_with fail
      refine (snil_drop _ _).mono ?_
      rintro e w6 ⟨rfl, rfl⟩
      go_wp2_with fail
      refine (snil_give _ _).mono ?_
      rintro e w6 ⟨rfl, rfl⟩
      go_wp2_with fail
      refine (snil_state _ _).mono ?_
      rintro e w6 ⟨rfl, rfl⟩
      go_wp2_with fail
      refine (snil_count _ _).mono ?_
      rintro e w6 ⟨rfl, rfl⟩
      go_wp2_with fail
      refine (snil_check _).mono ?_
      rintro e w6 ⟨rfl, rfl⟩
      go_wp2_with fail
      refine (snil_page _).mono ?_
      rintro e w6 ⟨rfl, rfl⟩
      go_wp2_with fail
      refine (snil_class _).mono ?_
      rintro e w6 ⟨rfl, rfl⟩
      go_wp2_with fail
      refine (snil_owner _).mono ?_
      rintro e w6 ⟨rfl, rfl⟩
      go_wp2_with fail
      refine (awake7 _).mono ?_
      rintro e w7 ⟨rfl, hb7⟩
      have HB7 := Lib.hid (b_call HB5.out hb7)
      clear hb7
      go_wp2_with fail
      go_ret
      exact ⟨rfl, HB7.out⟩
    · have HMK := Lib.hid (HBAD.out (fun q => hp ⟨q.2.1, by have := q.2.2; omega⟩))
      generalize keyI 1 = key at *
      by_cases hp0 : page < 0
      · have hp1 : ¬ (page ≥ 0) := by omega
        clear hz hL0 hl hm HBAD hn hp
        go_enter Try.func12, Try.ntmps12
        go_wp2_with fail
        refine (HNA.out _).mono ?_
        rintro e w1 ⟨ab, ag, ac, rfl, ha1, n1, n2, hb1⟩
        have HA1 := Lib.hid ha1
        have HB1 := Lib.hid hb1
        have HN1 := Lib.hid (And.intro n1 n2)
        clear ha1 hb1 n1 n2
        unfold tp
        go_wp2_with fail
        refine (HNL.out _).mono ?_
        rintro e w2 ⟨rfl, hb2⟩
        have HA2 := Lib.hid (are_below HA1.out hb2)
        have HB2 := Lib.hid (b_call HB1.out hb2)
        clear hb2
        have HM2 := Lib.hid (HMK.out w2 ab ag ac HA2.out HN1.out.2)
        unfold tp at HM2
        go_wp2_with fail
        refine HM2.out.mono ?_
        rintro e w3 ⟨sv, rfl, hsv, hb3⟩
        have HB3 := Lib.hid (hb3 HB2.out)
        clear hb3 HM2
        subst hsv
        go_wp2_with fail
        refine (HSZ.out _).mono ?_
        rintro e w4 ⟨rfl, rfl⟩
        go_wp2_with fail
        refine (HNL.out _).mono ?_
        rintro e w4 ⟨rfl, hb4⟩
        have HB4 := Lib.hid (b_call HB3.out hb4)
        clear hb4
        go_wp2_with fail
        refine (smake_nil _ ⟨_, rfl⟩ _ _ _ _).mono ?_
        rintro e w5 ⟨rfl, hb5⟩
        have HB5 := Lib.hid (b_call HB4.out hb5)
        clear hb5
        go_wp2_with fail
        refine (snil_take _).mono ?_
        rintro e w6 ⟨rfl, rfl⟩
        go_wp2_with fail
        refine (snil_drop _ _).mono ?_
        rintro e w6 ⟨rfl, rfl⟩
        go_wp2_with fail
        refine (snil_give _ _).mono ?_
        rintro e w6 ⟨rfl, rfl⟩
        go_wp2_with fail
        refine (snil_state _ _).mono ?_
        rintro e w6 ⟨rfl, rfl⟩
        go_wp2_with fail
        refine (snil_count _ _).mono ?_
        rintro e w6 ⟨rfl, rfl⟩
        go_wp2_with fail
        refine (snil_check _).mono ?_
        rintro e w6 ⟨rfl, rfl⟩
        go_wp2_with fail
        refine (snil_page _).mono ?_
        rintro e w6 ⟨rfl, rfl⟩
        go_wp2_with fail
        refine (snil_class _).mono ?_
        rintro e w6 ⟨rfl, rfl⟩
        go_wp2_with fail
        refine (snil_owner _).mono ?_
        rintro e w6 ⟨rfl, rfl⟩
        go_wp2_with fail
        refine (awake7 _).mono ?_
        rintro e w7 ⟨rfl, hb7⟩
        have HB7 := Lib.hid (b_call HB5.out hb7)
        clear hb7
        go_wp2_with fail
        go_ret
        exact ⟨rfl, HB7.out⟩
      · have hp1 : page ≥ 0 := by omega
        have hp2 : decide (page < (n : Int)) = false := decide_eq_false (by omega)
        clear hz hL0 hl hm HBAD hn hp
        go_enter Try.func12, Try.ntmps12
        go_wp2_with fail
        refine (HNA.out _).mono ?_
        rintro e w1 ⟨ab, ag, ac, rfl, ha1, n1, n2, hb1⟩
        have HA1 := Lib.hid ha1
        have HB1 := Lib.hid hb1
        have HN1 := Lib.hid (And.intro n1 n2)
        clear ha1 hb1 n1 n2
        unfold tp
        go_wp2_with fail
        refine (HNL.out _).mono ?_
        rintro e w2 ⟨rfl, hb2⟩
        have HA2 := Lib.hid (are_below HA1.out hb2)
        have HB2 := Lib.hid (b_call HB1.out hb2)
        clear hb2
        have HM2 := Lib.hid (HMK.out w2 ab ag ac HA2.out HN1.out.2)
        unfold tp at HM2
        go_wp2_with fail
        refine HM2.out.mono ?_
        rintro e w3 ⟨sv, rfl, hsv, hb3⟩
        have HB3 := Lib.hid (hb3 HB2.out)
        clear hb3 HM2
        subst hsv
        go_wp2_with fail
        refine (HSZ.out _).mono ?_
        rintro e w4 ⟨rfl, rfl⟩
        go_wp2_with fail
        refine (HNL.out _).mono ?_
        rintro e w4 ⟨rfl, hb4⟩
        have HB4 := Lib.hid (b_call HB3.out hb4)
        clear hb4
        go_wp2_with fail
        refine (smake_nil _ ⟨_, rfl⟩ _ _ _ _).mono ?_
        rintro e w5 ⟨rfl, hb5⟩
        have HB5 := Lib.hid (b_call HB4.out hb5)
        clear hb5
        go_wp2_with fail
        refine (snil_take _).mono ?_
        rintro e w6 ⟨rfl, rfl⟩
        go_wp2_with fail
        refine (snil_drop _ _).mono ?_
        rintro e w6 ⟨rfl, rfl⟩
        go_wp2_with fail
        refine (snil_give _ _).mono ?_
        rintro e w6 ⟨rfl, rfl⟩
        go_wp2_with fail
        refine (snil_state _ _).mono ?_
        rintro e w6 ⟨rfl, rfl⟩
        go_wp2_with fail
        refine (snil_count _ _).mono ?_
        rintro e w6 ⟨rfl, rfl⟩
        go_wp2_with fail
        refine (snil_check _).mono ?_
        rintro e w6 ⟨rfl, rfl⟩
        go_wp2_with fail
        refine (snil_page _).mono ?_
        rintro e w6 ⟨rfl, rfl⟩
        go_wp2_with fail
        refine (snil_class _).mono ?_
        rintro e w6 ⟨rfl, rfl⟩
        go_wp2_with fail
        refine (snil_owner _).mono ?_
        rintro e w6 ⟨rfl, rfl⟩
        go_wp2_with fail
        refine (awake7 _).mono ?_
        rintro e w7 ⟨rfl, hb7⟩
        have HB7 := Lib.hid (b_call HB5.out hb7)
        clear hb7
        go_wp2_with fail
        go_ret
        exact ⟨rfl, HB7.out⟩
  · have hs0 : sizeI cl = 0 ∧ slotsI cl = 0 := by
      rcases class_cases cl with q | q | q | q | ⟨_, _, q1, q2, _⟩
      · omega
      · omega
      · omega
      · omega
      · exact ⟨q1, q2⟩
    rw [hs0.1] at HSZ
    have HMK := Lib.hid (HBAD.out (fun q => q.1 hs0.2))
    generalize keyI 1 = key at *
    clear hL0 hl hm HBAD hn hs0 hc
    go_enter Try.func12, Try.ntmps12
    go_wp2_with fail
    refine (HNA.out _).mono ?_
    rintro e w1 ⟨ab, ag, ac, rfl, ha1, n1, n2, hb1⟩
    have HA1 := Lib.hid ha1
    have HB1 := Lib.hid hb1
    have HN1 := Lib.hid (And.intro n1 n2)
    clear ha1 hb1 n1 n2
    unfold tp
    go_wp2_with fail
    refine (HNL.out _).mono ?_
    rintro e w2 ⟨rfl, hb2⟩
    have HA2 := Lib.hid (are_below HA1.out hb2)
    have HB2 := Lib.hid (b_call HB1.out hb2)
    clear hb2
    have HM2 := Lib.hid (HMK.out w2 ab ag ac HA2.out HN1.out.2)
    unfold tp at HM2
    go_wp2_with fail
    refine HM2.out.mono ?_
    rintro e w3 ⟨sv, rfl, hsv, hb3⟩
    have HB3 := Lib.hid (hb3 HB2.out)
    clear hb3 HM2
    subst hsv
    go_wp2_with fail
    refine (HSZ.out _).mono ?_
    rintro e w4 ⟨rfl, rfl⟩
    go_wp2_with fail
    refine (HNL.out _).mono ?_
    rintro e w4 ⟨rfl, hb4⟩
    have HB4 := Lib.hid (b_call HB3.out hb4)
    clear hb4
    go_wp2_with fail
    refine (smake_nil _ ⟨_, rfl⟩ _ _ _ _).mono ?_
    rintro e w5 ⟨rfl, hb5⟩
    have HB5 := Lib.hid (b_call HB4.out hb5)
    clear hb5
    go_wp2_with fail
    refine (snil_take _).mono ?_
    rintro e w6 ⟨rfl, rfl⟩
    go_wp2_with fail
    refine (snil_drop _ _).mono ?_
    rintro e w6 ⟨rfl, rfl⟩
    go_wp2_with fail
    refine (snil_give _ _).mono ?_
    rintro e w6 ⟨rfl, rfl⟩
    go_wp2_with fail
    refine (snil_state _ _).mono ?_
    rintro e w6 ⟨rfl, rfl⟩
    go_wp2_with fail
    refine (snil_count _ _).mono ?_
    rintro e w6 ⟨rfl, rfl⟩
    go_wp2_with fail
    refine (snil_check _).mono ?_
    rintro e w6 ⟨rfl, rfl⟩
    go_wp2_with fail
    refine (snil_page _).mono ?_
    rintro e w6 ⟨rfl, rfl⟩
    go_wp2_with fail
    refine (snil_class _).mono ?_
    rintro e w6 ⟨rfl, rfl⟩
    go_wp2_with fail
    refine (snil_owner _).mono ?_
    rintro e w6 ⟨rfl, rfl⟩
    go_wp2_with fail
    refine (awake7 _).mono ?_
    rintro e w7 ⟨rfl, hb7⟩
    have HB7 := Lib.hid (b_call HB5.out hb7)
    clear hb7
    go_wp2_with fail
    go_ret
    exact ⟨rfl, HB7.out⟩
end Go.Proofs.Ytgbbnmjfkhconaa
