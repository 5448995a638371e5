/- Layer 3's arenas: the contracts of what writes, copies, makes. Conditions: an arena of at most 65536 bytes; bytes are bytes. -/
import Derived.Test.YtgbbnmjfkhconaaAre1
namespace Go.Proofs.Ytgbbnmjfkhconaa
open Go.RowKit
set_option linter.unusedVariables false
set_option linter.unusedSimpArgs false
attribute [local go_sem] over_cell over_frozen
theorem asetw_any {w : World} {b g cap : Nat} {L : List Int} (h : AreAt w b g cap L) (a v : Int) (hv : 0 ≤ v) (hv2 : v < 18446744073709551616) : Calls Try.prog 32 #[tp b, .int .i64 a, .int .u64 v] w fun e w' => e = .returned (.int .i64 (wordE L.length a)) ∧ AreAt w' b g cap (setW L a v) ∧ w.grownBy w' (some g) := by
  have hin := Lib.hid (awd_any h a)
  obtain ⟨h0, hf⟩ := blk1 h.hd
  have hbl := h.hd.1
  have H := Lib.hid h
  have HV := Lib.hid hv
  have HV2 := Lib.hid hv2
  unfold tp at *
  have hle := h.le
  have hcp := h.cp
  have hmx := h.mx
  clear h hv hv2
  unfold setW
  rcases wordE_cases L.length a with ⟨h1, _⟩ | ⟨h1, _⟩ | ⟨h1, _, k, rfl, h3, _⟩
  · rw [h1] at hin ⊢
    rw [if_neg (by decide)]
    go_enter Try.func32, Try.ntmps32
    go_wp2_with fail
    refine hin.out.mono ?_
    rintro e w1 ⟨rfl, rfl⟩
    go_wp2_with fail
    go_ret
    exact ⟨rfl, H.out, gb_refl _ _⟩
  · rw [h1] at hin ⊢
    rw [if_neg (by decide)]
    go_enter Try.func32, Try.ntmps32
    go_wp2_with fail
    refine hin.out.mono ?_
    rintro e w1 ⟨rfl, rfl⟩
    go_wp2_with fail
    go_ret
    exact ⟨rfl, H.out, gb_refl _ _⟩
  · rw [h1] at hin ⊢
    rw [if_pos rfl, Int.toNat_natCast]
    have hcap := cap_le hcp
    have k0 : (0 : Int) ≤ k := by omega
    have k1 : (k : Int) ≤ L.length := by omega
    have k2 : (k : Int) ≤ cap := by omega
    have k3 : ¬ (cap = k) := by omega
    have HK : Hid (∀ w', Below w.heap.size w w' → w'.cell? ⟨b, 0, none⟩ = some (.slice (some ⟨g, 0, none⟩) L.length cap)) := Lib.hid (fun w' hb => by rw [(bcell hb).1 _ _ hbl]; exact h0)
    go_enter Try.func32, Try.ntmps32
    go_wp2_with fail
    refine hin.out.mono ?_
    rintro e w1 ⟨rfl, rfl⟩
    go_upto_region 4 with fail
    go_cut [7] (fun vx wx => AreAt wx b g cap (lay L k (putL 8 v)) ∧ w.grownBy wx (some g))
    case first =>
      refine wp_region_E (S := fun w' => w'.cell? ⟨b, 0, none⟩ = some (.slice (some ⟨g, 0, none⟩) L.length cap)) 8 (by kernel_rfl) (HK.out _ (b_drew (Below.refl _ _))) (fun hHeld => ?_)
      (refine wpAnyE_take (n := 12) (i := 0) (v := ?_) rfl (by kernel_rfl) (by kernel_rfl) (by kernel_rfl) (by kernel_rfl) (by kernel_rfl) (fun _ _ _ h => h) (Or.inl ⟨by rfl, ?_⟩) hHeld ?_; rotate_left; (focus (intro w hSw; (try dsimp only at hSw); go_simp; try (with_reducible rfl))); (try simp only [Act.put, List.getElem_toArray, List.getElem_cons_succ, List.getElem_cons_zero, List.setIfInBounds_toArray, List.set_cons_zero, List.set_cons_succ]))
      (refine wpAnyE_take (n := 12) (i := 1) (v := ?_) rfl (by kernel_rfl) (by kernel_rfl) (by kernel_rfl) (by kernel_rfl) (by kernel_rfl) (fun _ _ _ h => h) (Or.inl ⟨by rfl, ?_⟩) hHeld ?_; rotate_left; (focus (intro w hSw; (try dsimp only at hSw); go_simp; try (with_reducible rfl))); (try simp only [Act.put, List.getElem_toArray, List.getElem_cons_succ, List.getElem_cons_zero, List.setIfInBounds_toArray, List.set_cons_zero, List.set_cons_succ]))
      (refine wpAnyE_take (n := 12) (i := 2) (v := ?_) rfl (by kernel_rfl) (by kernel_rfl) (by kernel_rfl) (by kernel_rfl) (by kernel_rfl) (fun _ _ _ h => h) (Or.inl ⟨by rfl, ?_⟩) hHeld ?_; rotate_left; (focus (intro w hSw; (try dsimp only at hSw); go_simp; try (with_reducible rfl))); (try simp only [Act.put, List.getElem_toArray, List.getElem_cons_succ, List.getElem_cons_zero, List.setIfInBounds_toArray, List.set_cons_zero, List.set_cons_succ]))
      (refine wpAnyE_take (n := 12) (i := 3) (v := ?_) rfl (by kernel_rfl) (by kernel_rfl) (by kernel_rfl) (by kernel_rfl) (by kernel_rfl) (fun _ _ _ h => h) (Or.inl ⟨by rfl, ?_⟩) hHeld ?_; rotate_left; (focus (intro w hSw; (try dsimp only at hSw); go_simp; try (with_reducible rfl))); (try simp only [Act.put, List.getElem_toArray, List.getElem_cons_succ, List.getElem_cons_zero, List.setIfInBounds_toArray, List.set_cons_zero, List.set_cons_succ]))
      (refine wpAnyE_take (n := 12) (i := 4) (v := ?_) rfl (by kernel_rfl) (by kernel_rfl) (by kernel_rfl) (by kernel_rfl) (by kernel_rfl) (fun _ _ _ h => h) (Or.inl ⟨by rfl, ?_⟩) hHeld ?_; rotate_left; (focus (intro w hSw; (try dsimp only at hSw); go_simp; try (with_reducible rfl))); (try simp only [Act.put, List.getElem_toArray, List.getElem_cons_succ, List.getElem_cons_zero, List.setIfInBounds_toArray, List.set_cons_zero, List.set_cons_succ]))
      (refine wpAnyE_take (n := 12) (i := 5) (v := ?_) rfl (by kernel_rfl) (by kernel_rfl) (by kernel_rfl) (by kernel_rfl) (by kernel_rfl) (fun _ _ _ h => h) (Or.inl ⟨by rfl, ?_⟩) hHeld ?_; rotate_left; (focus (intro w hSw; (try dsimp only at hSw); go_simp; try (with_reducible rfl))); (try simp only [Act.put, List.getElem_toArray, List.getElem_cons_succ, List.getElem_cons_zero, List.setIfInBounds_toArray, List.set_cons_zero, List.set_cons_succ]))
      (refine wpAnyE_take (n := 12) (i := 6) (v := ?_) rfl (by kernel_rfl) (by kernel_rfl) (by kernel_rfl) (by kernel_rfl) (by kernel_rfl) (fun _ _ _ h => h) (Or.inl ⟨by rfl, ?_⟩) hHeld ?_; rotate_left; (focus (intro w hSw; (try dsimp only at hSw); go_simp; try (with_reducible rfl))); (try simp only [Act.put, List.getElem_toArray, List.getElem_cons_succ, List.getElem_cons_zero, List.setIfInBounds_toArray, List.set_cons_zero, List.set_cons_succ]))
      refine wpAnyE_ready (rs := [7]) (by kernel_rfl) (by simp) (AllReadyE.cons rfl (fun K hK => ?_) AllReadyE.nil)
      go_simp
      refine (nput_any 8 v _ (by decide) (by decide) HV.out HV2.out).mono ?_
      rintro e w4 ⟨v4, rfl, own4, hb4⟩
      have hB4 : Below w.heap.size w w4 := b_call (b_drew (Below.refl _ _)) hb4
      refine hK.out _ _ (HK.out _ hB4) (fun hHeld => ?_)
      clear hK K
      (try simp only [Act.put, List.getElem_toArray, List.getElem_cons_succ, List.getElem_cons_zero, List.setIfInBounds_toArray, List.set_cons_zero, List.set_cons_succ])
      have H4 := are_below H.out hB4
      refine wpAnyE_ready (rs := [8]) (by kernel_rfl) (by simp) (AllReadyE.last rfl (fun K hK => ?_))
      refine step_copyB rfl _ _ _ _ 5 rfl under_byts szByte g k (L.length - k) (cap - k) _ L (putL 8 v) _ rfl (fun _ => rfl) (by rw [putL_length]; omega) rfl (ownB_read own4) H4.rw (by rw [putL_length]; exact h3) ?_
      have R : AreAt (w4.setCells g k (byts (putL 8 v))) b g cap (lay L k (putL 8 v)) := are_lay H4 (by rw [putL_length]; exact h3) (isBytes_putL _ _)
      have G : w.grownBy (w4.setCells g k (byts (putL 8 v))) (some g) := below_gb hB4 are_lay_g
      generalize w4.setCells g k (byts (putL 8 v)) = w5 at *
      refine hK.out _ _ (trivial) (fun hHeld => ?_)
      clear hK K
      (try simp only [Act.put, List.getElem_toArray, List.getElem_cons_succ, List.getElem_cons_zero, List.setIfInBounds_toArray, List.set_cons_zero, List.set_cons_succ])
      refine wpAnyE_done (by kernel_rfl) ?_
      go_wp2_with fail
      go_meet
      case rel => exact ⟨R, G⟩
    case rest =>
      obtain ⟨R, G⟩ := hcut
      go_wp2_with fail
      go_ret
      exact ⟨rfl, R, G⟩
theorem asetw_nil (a v : Int) (w : World) : Calls Try.prog 32 #[.pointer none, .int .i64 a, .int .u64 v] w fun e w' => e = .returned (.int .i64 2) ∧ w = w' := by
  go_enter Try.func32, Try.ntmps32
  go_wp2_with fail
  refine (awd_nil _ _).mono ?_
  rintro e w1 ⟨rfl, rfl⟩
  go_wp2_with fail
  go_ret
  exact ⟨rfl, rfl⟩
theorem astore_any {w : World} {b g cap : Nat} {L : List Int} (h : AreAt w b g cap L) (a : Int) (u : Value) (M : List Int) (hr : ReadB w u M) (hM : IsBytes M) : Calls Try.prog 20 #[tp b, .int .i64 a, u] w fun e w' => e = .returned (.int .i64 (inE L.length a M.length)) ∧ AreAt w' b g cap (storeL L a M) ∧ w.grownBy w' (some g) := by
  have hin := Lib.hid (ain_any h a M.length)
  obtain ⟨h0, hf⟩ := blk1 h.hd
  have H := Lib.hid h
  have HR := Lib.hid hr
  have HM := Lib.hid hM
  obtain ⟨ua, uc, rfl⟩ := readB_len hr
  unfold tp at *
  have hle := h.le
  have hcp := h.cp
  have hmx := h.mx
  clear h hr hM
  unfold storeL
  rcases inE_cases L.length a M.length with ⟨h1, _⟩ | ⟨h1, k, m, rfl, hm, hk⟩
  · rw [h1] at hin ⊢
    rw [if_neg (by decide)]
    go_enter Try.func20, Try.ntmps20
    go_wp2_with fail
    refine hin.out.mono ?_
    rintro e w1 ⟨rfl, rfl⟩
    go_wp2_with fail
    go_ret
    exact ⟨rfl, H.out, gb_refl _ _⟩
  · rw [h1] at hin ⊢
    rw [if_pos rfl, Int.toNat_natCast]
    have hcap := cap_le hcp
    have k0 : (0 : Int) ≤ k := by omega
    have k1 : (k : Int) ≤ L.length := by omega
    have k2 : (k : Int) ≤ cap := by omega
    have hfit : k + M.length ≤ L.length := by omega
    have HF := Lib.hid hfit
    have R : AreAt (w.setCells g k (byts M)) b g cap (lay L k M) := are_lay H.out hfit HM.out
    have G : w.grownBy (w.setCells g k (byts M)) (some g) := are_lay_g
    have HRR := Lib.hid R
    have HG := Lib.hid G
    clear R G hm hk hfit
    by_cases hck : cap = k
    · subst hck
      have HL0 : Hid (M.length = 0) := by show M.length = 0; have := HF.out; omega
      go_enter Try.func20, Try.ntmps20
      go_wp2_with fail
      refine hin.out.mono ?_
      rintro e w1 ⟨rfl, rfl⟩
      go_wp2_with (refine copyB rfl _ _ _ _ 5 rfl under_byts szByte g cap _ _ _ L M _ rfl (fun hpos => ?c1) (by have := HF.out; omega) rfl HR.out H.out.rw HF.out ?_; (case c1 => (exfalso; have := HL0.out; omega)))
      go_ret
      exact ⟨rfl, HRR.out, HG.out⟩
    · go_enter Try.func20, Try.ntmps20
      go_wp2_with fail
      refine hin.out.mono ?_
      rintro e w1 ⟨rfl, rfl⟩
      go_wp2_with (refine copyB rfl _ _ _ _ 5 rfl under_byts szByte g k (L.length - k) (cap - k) _ L M _ rfl (fun hpos => rfl) (by have := HF.out; omega) rfl HR.out H.out.rw HF.out ?_)
      go_ret
      exact ⟨rfl, HRR.out, HG.out⟩
theorem astore_nil (a : Int) (u : Value) (M : List Int) (w : World) (hr : ReadB w u M) : Calls Try.prog 20 #[.pointer none, .int .i64 a, u] w fun e w' => e = .returned (.int .i64 2) ∧ w = w' := by
  obtain ⟨ua, uc, rfl⟩ := readB_len hr
  clear hr
  go_enter Try.func20, Try.ntmps20
  go_wp2_with fail
  refine (ain_nil _ _ _).mono ?_
  rintro e w1 ⟨rfl, rfl⟩
  go_wp2_with fail
  go_ret
  exact ⟨rfl, rfl⟩
theorem afill_any {w : World} {b g cap : Nat} {L : List Int} (h : AreAt w b g cap L) (a n c : Int) (hc : 0 ≤ c ∧ c < 256) : Calls Try.prog 31 #[tp b, .int .i64 a, .int .i64 n, .int .u8 c] w fun e w' => e = .returned (.int .i64 (inE L.length a n)) ∧ AreAt w' b g cap (fillL L a n c) ∧ w.grownBy w' (some g) := by
  have hin := Lib.hid (ain_any h a n)
  have H := Lib.hid h
  have HC := Lib.hid hc
  unfold tp at *
  have hmx := h.mx
  clear h hc
  unfold fillL
  rcases inE_cases L.length a n with ⟨h1, _⟩ | ⟨h1, k, m, rfl, rfl, hk⟩
  · rw [h1] at hin ⊢
    rw [if_neg (by decide)]
    go_enter Try.func31, Try.ntmps31
    go_wp2_with fail
    refine hin.out.mono ?_
    rintro e w1 ⟨rfl, rfl⟩
    go_wp2_with fail
    go_ret
    exact ⟨rfl, H.out, gb_refl _ _⟩
  · rw [h1] at hin ⊢
    rw [if_pos rfl, Int.toNat_natCast, Int.toNat_natCast]
    have HK := Lib.hid hk
    have k0 : (0 : Int) ≤ k := by omega
    have m0 : (0 : Int) ≤ m := by omega
    have k1 : (k : Int) + m ≤ 65536 := by omega
    clear hk
    go_enter Try.func31, Try.ntmps31
    go_wp2_with fail
    refine hin.out.mono ?_
    rintro e w1 ⟨rfl, rfl⟩
    go_wp2_with fail
    go_loopw [10] (fun i wr => ∃ j : Nat, j ≤ m ∧ i = .int .i64 ((k + j : Nat) : Int) ∧ AreAt wr b g cap (lay L k (List.replicate j c)) ∧ w.grownBy wr (some g)) (fun i _ => (65536 - intOf i).toNat)
    case atStart => exact ⟨0, by omega, rfl, by rw [show lay L k (List.replicate 0 c) = L by unfold lay; simp]; exact H.out, gb_refl _ _⟩
    case round =>
      obtain ⟨j, hj, rfl, R, G⟩ := hrel
      have hl : (lay L k (List.replicate j c)).length = L.length := lay_length (by rw [List.length_replicate]; have := HK.out; omega)
      by_cases hlt : j < m
      · have j0 : (0 : Int) ≤ ((k + j : Nat) : Int) := by omega
        have j1 : ((k + j : Nat) : Int) < (k : Int) + m := by omega
        have j2 : ((k + j : Nat) : Int) < L.length := by have := HK.out; omega
        have j3 : ((k + j : Nat) : Int) < 65536 := by omega
        obtain ⟨d0, df⟩ := blk1 R.hd
        rw [hl] at d0
        have x0 := blkB_at R.rw (k + j) (by rw [hl]; have := HK.out; omega)
        have gf := R.rw.2.2
        have gl := R.rw.1
        have HR := Lib.hid R
        have HGG := Lib.hid G
        have HLL := Lib.hid hl
        generalize (lay L k (List.replicate j c)).getD (k + j) 0 = y at *
        have HN : Hid ((lay L k (List.replicate j c)).set (k + j) c = lay L k (List.replicate (j + 1) c)) := lay_rep_step (by have := HK.out; omega) c
        obtain ⟨i, hi⟩ : ∃ i, i = k + j := ⟨_, rfl⟩
        rw [← hi] at j0 j1 j2 j3 x0 HN
        rw [← hi]
        have HI := Lib.hid hi
        clear R G hl hi
        go_wp2_with fail
        have R5 : AreAt (wr.setCell ⟨g, i, none⟩ (.int .u8 c)) b g cap (lay L k (List.replicate (j + 1) c)) := by
          have q := are_lay HR.out (k := i) (M := [c]) (by simp only [List.length_cons, List.length_nil]; rw [HLL.out, HI.out]; have := HK.out; omega) (isBytes_rep 1 HC.out)
          rw [lay_one _ _ _ (by rw [HLL.out, HI.out]; have := HK.out; omega), HN.out] at q
          exact q
        exact ⟨⟨j + 1, by omega, by rw [HI.out]; go_num, R5, gb_set HGG.out _ _ _⟩, by simp only [intOf]; omega⟩
      · have e : j = m := by omega
        subst e
        have e1 : ((k + j : Nat) : Int) = (k : Int) + j := by omega
        rw [e1]
        have HR := Lib.hid R
        have HGG := Lib.hid G
        clear R G hl e1
        go_wp2_with fail
        go_ret
        exact ⟨rfl, HR.out, HGG.out⟩
theorem afill_nil (a n c : Int) (w : World) : Calls Try.prog 31 #[.pointer none, .int .i64 a, .int .i64 n, .int .u8 c] w fun e w' => e = .returned (.int .i64 2) ∧ w = w' := by
  go_enter Try.func31, Try.ntmps31
  go_wp2_with fail
  refine (ain_nil _ _ _).mono ?_
  rintro e w1 ⟨rfl, rfl⟩
  go_wp2_with fail
  go_ret
  exact ⟨rfl, rfl⟩
end Go.Proofs.Ytgbbnmjfkhconaa
