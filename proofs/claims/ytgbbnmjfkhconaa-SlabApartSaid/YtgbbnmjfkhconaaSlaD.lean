/- SlabApart, walked. Conditions: the numbers are of their kinds; the calls read as a row, the bytes as bytes. -/
import Derived.Test.YtgbbnmjfkhconaaSlaA
import Derived.Test.YtgbbnmjfkhconaaSlaC
import Derived.Test.YtgbbnmjfkhconaaAre3
namespace Go.Proofs.Ytgbbnmjfkhconaa
open Go.RowKit
set_option linter.unusedVariables false
set_option linter.unusedSimpArgs false
attribute [local go_sem] over_cell over_frozen
variable {w w' : World} {b : SlB} {m : SlM} {P Z N : Nat} {fl : List Nat}
theorem cntS_all (m : SlM) : ∀ n, n ≤ m.ll.length → cntS m 0 n + cntS m 1 n + cntS m 2 n = n
  | 0, _ => by simp [cntS]
  | n + 1, h => by
    have ih := cntS_all m n (by omega)
    rw [cntS_succ, cntS_succ, cntS_succ]
    have hs : stI m n = 0 ∨ stI m n = 1 ∨ stI m n = 2 := by
      unfold stI
      rw [if_pos (by omega)]
      (repeat' split) <;> simp
    rcases hs with q | q | q <;> rw [q] <;> simp <;> omega
variable {w0 : World} {p rs : Nat}
theorem w7_store (h : W7 w0 w p rs b Z N m fl) {k : Nat} (hk : k < N) (hl : m.ll.getD k false = true) {M : List Int} (hM : M.length ≤ Z - 8) (ha : AreAt w' b.ab b.ag b.ac (storeL m.L ((bsN 1 Z k : Nat) : Int) M)) (hg : w.grownBy w' (some b.ag)) : W7 w0 w' p rs b Z N { m with L := storeL m.L ((bsN 1 Z k : Nat) : Int) M } fl :=
  w7_turn h (sl_arena h.g.a ha hg) (good_store h.g.g hk hl hM) (gxA (gx_refl _ _) hg)
set_option maxRecDepth 100000 in
set_option maxHeartbeats 16000000 in
theorem slabApart_any (seed cl0 : Int) (u ub : Value) (M : List Op7) (B0 : List Int) (s0 : 0 ≤ seed) (s1 : seed < 18446744073709551616) (w : World) (hM : ReadR op7 w u M) (hB : ReadB w ub B0) (hBb : IsBytes B0) : Calls Try.prog 11 #[.int .u64 seed, .int .i64 cl0, u, ub] w fun e w' => e = .returned (.bool true) ∧ Below w.heap.size w w' := by
  obtain ⟨cl, Z, N, ecl, hz⟩ := cls_and cl0
  have HLM := Lib.hid (lmake7 seed cl 1 s0 s1 (by omega) hz w)
  have HN16 := Lib.hid (cls_bd hz).2.2.2.1
  have HZ0 := Lib.hid hz
  obtain ⟨zm, hzm, hz8, hzb⟩ : ∃ zm : Nat, Z = zm + 8 ∧ Z - 8 = zm ∧ zm ≤ 120 := ⟨Z - 8, by have := cls_bd hz; omega, rfl, by have := cls_bd hz; omega⟩
  have HZM := Lib.hid (And.intro hzm hz8)
  obtain ⟨Zi, hzi⟩ : ∃ Zi : Int, Zi = Z := ⟨_, rfl⟩
  have HZI := Lib.hid hzi
  have hsub : Zi - 8 = (zm : Int) := by omega
  have hzi0 : (16 : Int) ≤ Zi ∧ Zi ≤ 128 := by have := cls_bd hz; omega
  obtain ⟨hzi0, hzi1⟩ := hzi0
  have HRS : Hid (∀ w, Calls Try.prog 59 #[.int .i64 cl] w fun e w' => e = .returned (.int .i64 Zi) ∧ w = w') := Lib.hid (fun w => by have q := rsize_any cl w; rw [(cls_nums hz).1, ← hzi] at q; exact q)
  have HRL : Hid (∀ w, Calls Try.prog 56 #[.int .i64 cl] w fun e w' => e = .returned (.int .i64 N) ∧ w = w') := Lib.hid (fun w => by have q := rslots_any cl w; rw [(cls_nums hz).2.1] at q; exact q)
  obtain ⟨ua, uc, rfl, m2, m3⟩ := readR_len hM
  have hucap := cap_le m3
  have HM := Lib.hid hM
  obtain ⟨b0a, b0c, rfl, r1, r2⟩ : ∃ a c, ub = .slice a B0.length c ∧ B0.length ≤ c ∧ c ≤ 9223372036854775807 := by
    obtain ⟨a, c, e, h1, h2, _⟩ := hB
    exact ⟨a, c, e, h1, cap_le h2⟩
  have HB0 : Hid (ReadB w (.slice b0a B0.length b0c) B0 ∧ IsBytes B0 ∧ B0.length ≤ b0c ∧ b0c ≤ 9223372036854775807) := Lib.hid ⟨hB, hBb, r1, r2⟩
  clear hB hBb
  clear hz s0 s1 hM m3 hzi hzm hz8
  go_enter Try.func11, Try.ntmps11
  go_wp2_with fail
  refine HLM.out.mono ?_
  rintro e w1 ⟨p, rs, b, m, rfl, hp, hg, _, hnew, hnp, hb1⟩
  have H1 := Lib.hid (show W7 w w1 p rs b Z N m (List.range N) from ⟨hg, hp, hnp, hnew, hb1⟩)
  clear hp hg hnew hnp hb1 HLM
  unfold tp
  go_wp2_with fail
  go_loopw [3, 32] (fun bv iv wr => ∃ j : Nat, j ≤ M.length ∧ iv = .int .i64 j ∧ (∃ (X : List Int) (xa : Option Addr) (xc : Nat), bv = .slice xa X.length xc ∧ X.length ≤ xc ∧ xc ≤ 9223372036854775807 ∧ Hid (ReadB w (.slice xa X.length xc) X ∧ IsBytes X) ∧ Hid (∃ m fl, W7 w wr p rs b Z N m fl))) (fun _ iv _ => M.length - (intOf iv).toNat)
  case atStart => exact ⟨0, Nat.zero_le _, rfl, ⟨B0, b0a, b0c, rfl, HB0.out.2.2.1, HB0.out.2.2.2, Lib.hid ⟨HB0.out.1, HB0.out.2.1⟩, Lib.hid ⟨m, _, H1.out⟩⟩⟩
  case round =>
    clear H1
    obtain ⟨W1, hW1⟩ : ∃ x, x = wr := ⟨_, rfl⟩
    subst hW1
    obtain ⟨j, hj, rfl, ⟨BX, ba, bc, rfl, hx1, hx2, HBX, HMF⟩⟩ := hrel
    obtain ⟨m, fl, hw7⟩ := HMF.out
    have H1 := Lib.hid hw7
    clear hw7 HMF
    have j0 : (0 : Int) ≤ j := by omega
    by_cases hlt : j < M.length
    · have j1 : (j : Int) < M.length := by omega
      have jc : (j : Int) < uc := by omega
      obtain ⟨bl, off, cp, e1, r1, r2, hbl, r4⟩ := readR_pos (readR_below HM.out H1.out.be) (by omega)
      injection e1 with e1 e1b e3
      subst e1
      have d0 : W1.cell? ⟨bl, off + j * 4, none⟩ = some (.int .i64 M[j].kind) := r4 j hlt 0 (by decide)
      have d1 : W1.cell? ⟨bl, off + j * 4 + 1, none⟩ = some (.int .i64 M[j].k) := r4 j hlt 1 (by decide)
      have d2 : W1.cell? ⟨bl, off + j * 4 + 2, none⟩ = some (.int .i64 M[j].at_) := r4 j hlt 2 (by decide)
      have d3 : W1.cell? ⟨bl, off + j * 4 + 3, none⟩ = some (.slice M[j].s.a M[j].s.n M[j].s.c) := r4 j hlt 3 (by decide)
      generalize M[j] = o at *
      obtain ⟨kd, ok, oa, ⟨sa, sn, sc⟩⟩ := o
      simp only at d0 d1 d2 d3
      clear r4 r1 r2 e1b e3
      go_upto_region 8 with fail
      refine wp_named ?_
      intro W2 hW2
      have HX2 : Hid (Blk W2 W1.heap.size [.int .i64 kd, .int .i64 ok, .int .i64 oa, .slice sa sn sc]) := Lib.hid (by rw [hW2]; exact blk_new _ _ _)
      have hB12 : Below W1.heap.size W1 W2 := by rw [hW2]; exact b_alloc (Below.refl _ _) _
      have H2 := Lib.hid (w7_below H1.out hB12)
      have HNQ : Hid (¬ slX b W1.heap.size) := Lib.hid (fun q => by have := slx_lt H1.out.g.a _ q; omega)
      clear hW2 d0 d1 d2 d3 hbl hB12 H1
      by_cases h40 : (j : Int) ≥ 40
      · have HS3 := cntS_all m N (by rw [H2.out.g.g.ll]; exact Nat.le_refl _)
        have Hd := Lib.hid (w7_below H2.out (b_drew (Below.refl W2.heap.size W2)))
        have HC0 := scount_any Hd.out.g.a 0
        have HC1 := scount_any Hd.out.g.a 1
        have HC2 := scount_any Hd.out.g.a 2
        rw [Hd.out.g.g.ll] at HC0 HC1 HC2
        generalize cntS m 0 N = n0 at *
        generalize cntS m 1 N = n1 at *
        generalize cntS m 2 N = n2 at *
        have hn16 := HN16.out
        have hw0 : IntKind.i64.wrap ((n0 : Int) + n1) = n0 + n1 := by rw [IntKind.wrap_i64]; omega
        have hw1 : IntKind.i64.wrap ((n0 : Int) + n1 + n2) = n0 + n1 + n2 := by rw [IntKind.wrap_i64]; omega
        have HRL3 : Hid (∀ w, Calls Try.prog 56 #[.int .i64 cl] w fun e w' => e = .returned (.int .i64 ((n0 : Int) + n1 + n2)) ∧ w = w') := Lib.hid (fun w => by have q := HRL.out w; rw [show (N : Int) = (n0 : Int) + n1 + n2 by omega] at q; exact q)
        have HD0 := Lib.hid HC0
        have HD1 := Lib.hid HC1
        have HD2 := Lib.hid HC2
        have HSP : Hid (W2.drew.cell? ⟨p, 1, none⟩ = some (.pointer (some ⟨b.s, 0, none⟩))) := Lib.hid (by have z := (blk3 Hd.out.pr).2.1; unfold sp at z; exact z)
        clear HC0 HC1 HC2 hn16 HS3
        unfold sp at HD0 HD1 HD2
        obtain ⟨p0, p1, p2, _⟩ := blk3 H2.out.pr
        have pz := H2.out.pr.1
        unfold sp at p1
        go_upto_region 31 with fail
        clear p0 p1 p2 pz
        refine wp_region_held_drew (S := fun w' => w'.cell? ⟨p, 1, none⟩ = some (.pointer (some ⟨b.s, 0, none⟩))) (by kernel_rfl) HSP.out (fun hHeld => ?_)
        refine atI 0 ?_
        iterate 4 (refine takeN (v := ?_) rfl (by rfl) ?_ hHeld ?_; rotate_left; (focus (intro w hSw; (try dsimp only at hSw); go_simp; try (with_reducible rfl))); (try simp only [Act.put, Nat.reduceAdd, List.getElem_toArray, List.getElem_cons_succ, List.getElem_cons_zero, List.setIfInBounds_toArray, List.set_cons_zero, List.set_cons_succ]))
        refine atIo ?_
        refine atI 5 ?_
        iterate 4 (refine takeN (v := ?_) rfl (by rfl) ?_ hHeld ?_; rotate_left; (focus (intro w hSw; (try dsimp only at hSw); go_simp; try (with_reducible rfl))); (try simp only [Act.put, Nat.reduceAdd, List.getElem_toArray, List.getElem_cons_succ, List.getElem_cons_zero, List.setIfInBounds_toArray, List.set_cons_zero, List.set_cons_succ]))
        refine atIo ?_
        refine atI 11 ?_
        iterate 4 (refine takeN (v := ?_) rfl (by rfl) ?_ hHeld ?_; rotate_left; (focus (intro w hSw; (try dsimp only at hSw); go_simp; try (with_reducible rfl))); (try simp only [Act.put, Nat.reduceAdd, List.getElem_toArray, List.getElem_cons_succ, List.getElem_cons_zero, List.setIfInBounds_toArray, List.set_cons_zero, List.set_cons_succ]))
        refine atIo ?_
        refine wpAnyH_ready (rs := [4]) (by kernel_rfl) (by simp) (AllReadyH.cons rfl (fun K hK => ?_) AllReadyH.nil)
        go_simp
        refine HD0.out.mono ?_
        rintro e w4 ⟨rfl, rfl⟩
        refine hK.out _ _ (HSP.out) (fun hHeld => ?_)
        clear hK K
        (try simp only [Act.put, List.getElem_toArray, List.getElem_cons_succ, List.getElem_cons_zero, List.setIfInBounds_toArray, List.set_cons_zero, List.set_cons_succ])
        refine wpAnyH_ready (rs := [9]) (by kernel_rfl) (by simp) (AllReadyH.cons rfl (fun K hK => ?_) AllReadyH.nil)
        go_simp
        refine HD1.out.mono ?_
        rintro e w4 ⟨rfl, rfl⟩
        refine hK.out _ _ (HSP.out) (fun hHeld => ?_)
        clear hK K
        (try simp only [Act.put, List.getElem_toArray, List.getElem_cons_succ, List.getElem_cons_zero, List.setIfInBounds_toArray, List.set_cons_zero, List.set_cons_succ])
        (refine wpAnyH_take (i := 10) (v := ?_) rfl (by kernel_rfl) (by kernel_rfl) (by kernel_rfl) (fun _ _ _ h => h) (Or.inl ⟨by rfl, ?_⟩) hHeld ?_; rotate_left; (focus (intro w hSw; (try dsimp only at hSw); go_simp; try (with_reducible rfl))); (try simp only [Act.put, List.getElem_toArray, List.getElem_cons_succ, List.getElem_cons_zero, List.setIfInBounds_toArray, List.set_cons_zero, List.set_cons_succ]))
        refine wpAnyH_ready (rs := [15]) (by kernel_rfl) (by simp) (AllReadyH.cons rfl (fun K hK => ?_) AllReadyH.nil)
        go_simp
        refine HD2.out.mono ?_
        rintro e w4 ⟨rfl, rfl⟩
        refine hK.out _ _ (HSP.out) (fun hHeld => ?_)
        clear hK K
        (try simp only [Act.put, List.getElem_toArray, List.getElem_cons_succ, List.getElem_cons_zero, List.setIfInBounds_toArray, List.set_cons_zero, List.set_cons_succ])
        refine atI 16 ?_
        iterate 2 (refine takeN (v := ?_) rfl (by rfl) ?_ hHeld ?_; rotate_left; (focus (intro w hSw; (try dsimp only at hSw); go_simp; try (with_reducible rfl))); (try simp only [Act.put, Nat.reduceAdd, List.getElem_toArray, List.getElem_cons_succ, List.getElem_cons_zero, List.setIfInBounds_toArray, List.set_cons_zero, List.set_cons_succ]))
        refine atIo ?_
        refine wpAnyH_done (by kernel_rfl) ?_ _
        go_wp2_with fail
        refine (HRL3.out _).mono ?_
        rintro e w4 ⟨rfl, rfl⟩
        go_wp2_with fail
        refine (awake7 _).mono ?_
        rintro e w5 ⟨rfl, hb5⟩
        have HB5 := Lib.hid (b_call Hd.out.be hb5)
        clear hb5
        go_wp2_with fail
        go_ret
        exact ⟨rfl, HB5.out⟩
      obtain ⟨p0, p1, p2, _⟩ := blk3 H2.out.pr
      have pz := H2.out.pr.1
      unfold sp at p1
      obtain ⟨x0, x1, x2, x3, xf⟩ := blk4 HX2.out
      have xz := HX2.out.1
      by_cases k2 : kd ≤ 2
      · skip
        obtain ⟨st, hst⟩ : ∃ st, stI m ok = st := ⟨_, rfl⟩
        have HST := Lib.hid hst
        have HSH2 : Hid (∀ w', GrowX W2 w' (slX b) → (w'.cell? ⟨p, 1, none⟩ = some (.pointer (some ⟨b.s, 0, none⟩)) ∧ w'.cell? ⟨W1.heap.size, 1, none⟩ = some (.int .i64 ok))) := Lib.hid (fun w' hg => by
          have z1 := (blk_gx H2.out.pr hg H2.out.np).2.1 1 (by simp)
          have z2 := (blk_gx HX2.out hg HNQ.out).2.1 1 (by simp)
          exact ⟨by simpa [sp] using z1, by simpa using z2⟩)
        have H2d := Lib.hid (w7_below H2.out (b_drew (Below.refl W2.heap.size W2)))
        have HSS := Lib.hid (sstate_any H2d.out.g.a ok)
        rw [hst] at HSS
        unfold sp at HSS
        go_upto_region 9 with fail
        clear p0 p1 p2 pz x0 x1 x2 x3 xf xz
        refine wp_region_held_drew (S := fun w' => (w'.cell? ⟨p, 1, none⟩ = some (.pointer (some ⟨b.s, 0, none⟩)) ∧ w'.cell? ⟨W1.heap.size, 1, none⟩ = some (.int .i64 ok))) (by kernel_rfl) (HSH2.out _ (gx_below (b_drew (Below.refl _ _)) _)) (fun hHeld => ?_)
        refine atI 0 ?_
        iterate 6 (refine takeN (v := ?_) rfl (by rfl) ?_ hHeld ?_; rotate_left; (focus (intro w hSw; (try dsimp only at hSw); go_simp; try (with_reducible rfl))); (try simp only [Act.put, Nat.reduceAdd, List.getElem_toArray, List.getElem_cons_succ, List.getElem_cons_zero, List.setIfInBounds_toArray, List.set_cons_zero, List.set_cons_succ]))
        refine atIo ?_
        refine wpAnyH_ready (rs := [6]) (by kernel_rfl) (by simp) (AllReadyH.cons rfl (fun K hK => ?_) AllReadyH.nil)
        go_simp
        refine HSS.out.mono ?_
        rintro e w4 ⟨rfl, rfl⟩
        refine hK.out _ _ (HSH2.out _ (gx_below (b_drew (Below.refl _ _)) _)) (fun hHeld => ?_)
        clear hK K
        (try simp only [Act.put, List.getElem_toArray, List.getElem_cons_succ, List.getElem_cons_zero, List.setIfInBounds_toArray, List.set_cons_zero, List.set_cons_succ])
        (refine wpAnyH_take (i := 7) (v := ?_) rfl (by kernel_rfl) (by kernel_rfl) (by kernel_rfl) (fun _ _ _ h => h) (Or.inl ⟨by rfl, ?_⟩) hHeld ?_; rotate_left; (focus (intro w hSw; (try dsimp only at hSw); go_simp; try (with_reducible rfl))); (try simp only [Act.put, List.getElem_toArray, List.getElem_cons_succ, List.getElem_cons_zero, List.setIfInBounds_toArray, List.set_cons_zero, List.set_cons_succ]))
        refine wpAnyH_done (by kernel_rfl) ?_ _
        have H3 := H2d
        have HX3 := Lib.hid (blk_below HX2.out (b_drew (Below.refl _ _)))
        clear hst HSS hHeld
        obtain ⟨p0, p1, p2, _⟩ := blk3 H3.out.pr
        have pz := H3.out.pr.1
        unfold sp at p1
        obtain ⟨x0, x1, x2, x3, xf⟩ := blk4 HX3.out
        have xz := HX3.out.1
        cases fl with
        | nil =>
          have HT := Lib.hid (stake_none H3.out.g.a H3.out.g.g)
          unfold sp at HT
          go_wp2_with fail
          refine HT.out.mono ?_
          rintro e w4 ⟨rfl, rfl⟩
          clear p0 p1 p2 pz HT x0 x1 x2 x3 xf xz
          go_wp2_with fail
          go_roundw
          case rel => exact ⟨j + 1, by omega, by first | rfl | go_num, ⟨BX, ba, bc, rfl, hx1, hx2, HBX, Lib.hid ⟨_, _, H3.out⟩⟩⟩
          case measure => simp [intOf] <;> omega
        | cons k rest =>
          have HT := Lib.hid (stake_any H3.out.g.a H3.out.g.g)
          have hkN : k < N := ((H3.out.g.g.fr k).1 (List.mem_cons_self ..)).1
          have hk0 : (0 : Int) ≤ k := by omega
          have hk16 : (k : Int) < 16 := by have := HN16.out; omega
          unfold sp at HT
          go_wp2_with fail
          refine HT.out.mono ?_
          rintro e w4 ⟨rfl, ha4, hg4⟩
          have H4 := Lib.hid (w7_turn H3.out ha4 (good_take H3.out.g.g).1 hg4)
          have HLV : Hid ((takeM m 1 Z k rest).ll.getD k false = true) := Lib.hid (by
            show (m.ll.set k true).getD k false = true
            rw [getD_setB _ _ _ _ (by rw [H3.out.g.g.ll]; exact hkN), if_pos rfl])
          have HLD := aload_any H4.out.g.a.ar ((bsN 1 Z k : Nat) : Int) ((Z - 8 : Nat) : Int)
          rw [inE_ok (by have := good_in H4.out.g.g hkN; omega), take_zero H3.out.g.g] at HLD
          have hat : ((bsN 1 Z k : Nat) : Int) = 256 + Zi * k := by
            show ((256 * 1 + Z * k : Nat) : Int) = _
            rw [Int.natCast_add, Int.natCast_mul Z k, HZI.out]; rfl
          have hm0 : 0 ≤ Zi * (k : Int) ∧ Zi * (k : Int) ≤ 256 := by
            have := good_in H4.out.g.g hkN
            have q := cls_in HZ0.out hkN
            rw [HZI.out, ← Int.natCast_mul Z k]
            omega
          obtain ⟨hm0, hm1⟩ := hm0
          rw [hat, HZM.out.2] at HLD
          have HAT := Lib.hid hat
          unfold tp at HLD
          have HLX := Lib.hid HLD
          clear hat ha4 hg4 HLD p0 p1 p2 pz HT x0 x1 x2 x3 xf xz
          obtain ⟨p0, p1, p2, _⟩ := blk3 H4.out.pr
          have pz := H4.out.pr.1
          unfold tp at p0
          go_wp2_with fail
          refine (HRS.out _).mono ?_
          rintro e w5 ⟨rfl, rfl⟩
          go_wp2_with fail
          refine (HRS.out _).mono ?_
          rintro e w5 ⟨rfl, rfl⟩
          go_wp2_with fail
          refine HLX.out.mono ?_
          rintro e w5 ⟨v5, rfl, _, hb5, h5⟩
          obtain ⟨g5, c5, rfl, hr5, _⟩ := h5 (by trivial)
          obtain ⟨X5, hX5⟩ : ∃ X5, X5 = List.replicate zm (0 : Int) := ⟨_, rfl⟩
          have HL5 : Hid (X5.length = zm) := Lib.hid (by rw [hX5, List.length_replicate])
          have HB5 : Hid (IsBytes X5) := Lib.hid (by rw [hX5]; exact isBytes_rep zm (by decide))
          obtain ⟨s, hs⟩ : ∃ s, s = bstr X5 := ⟨_, rfl⟩
          rw [← hX5] at hr5 ⊢
          unfold rowV
          have HCV : Hid (∀ w', Below w5.heap.size w5 w' → (convert 31 9 (.slice (some ⟨g5, 0, none⟩) X5.length c5)).run Try.prog w' = .ok (.string s) w') := Lib.hid (fun w' hb => by
            rw [hs]; exact conv_read (row_read (row_below hr5 hb)) HB5.out)
          have HCV2 : Hid (∀ w' : World, (convert 31 9 (.slice (some ⟨w'.heap.size, 0, none⟩) zm zm)).run Try.prog (w'.alloc (.cells (byts (List.replicate zm 0)).toArray 5)) = .ok (.string s) (w'.alloc (.cells (byts (List.replicate zm 0)).toArray 5))) := Lib.hid (fun w' => by
            have q := row_read (row_mk w' zm (by omega))
            unfold rowV at q
            rw [List.length_replicate, ← hX5] at q
            have q2 := conv_read q HB5.out
            rw [hs, ← hX5]; exact q2)
          have K := mk_byts zm (by omega) zm rfl
          have H5 := Lib.hid (w7_below H4.out hb5)
          have H6 := Lib.hid (w7_below H5.out (b_drew (b_alloc (Below.refl w5.heap.size w5) (.cells (byts (List.replicate zm 0)).toArray 5))))
          clear hs hX5 hr5 h5 hb5 p0 p1 p2 pz HLX HST H2 H2d H3 HX3 HX2
          go_upto_region 16 with fail
          refine wp_region_held_drew (S := fun w' => (convert 31 9 (.slice (some ⟨g5, 0, none⟩) X5.length c5)).run Try.prog w' = .ok (.string s) w') (by kernel_rfl) (HCV.out _ (b_drew (Below.refl _ _))) (fun hHeld => ?_)
          refine atI 0 ?_
          iterate 3 (refine takeN (v := ?_) rfl (by rfl) ?_ hHeld ?_; rotate_left; (focus (intro w hSw; (try dsimp only at hSw); go_simp; try (with_reducible rfl))); (try simp only [Act.put, Nat.reduceAdd, List.getElem_toArray, List.getElem_cons_succ, List.getElem_cons_zero, List.setIfInBounds_toArray, List.set_cons_zero, List.set_cons_succ]))
          refine atIo ?_
          refine wpAnyH_ready (rs := [3]) (by kernel_rfl) (by simp) (AllReadyH.cons rfl (fun K hK => ?_) AllReadyH.nil)
          go_simp
          refine hK.out _ _ (HCV.out _ (by (repeat' (first | exact Below.refl _ _ | assumption | refine b_alloc ?_ _ | refine b_over ?_ _ | refine b_drew ?_ | refine b_call ?_ (by assumption))))) (fun hHeld => ?_)
          clear hK K
          (try simp only [Act.put, List.getElem_toArray, List.getElem_cons_succ, List.getElem_cons_zero, List.setIfInBounds_toArray, List.set_cons_zero, List.set_cons_succ])
          refine wpAnyH_switch (S' := fun w' => (convert 31 9 (.slice (some ⟨g5, 0, none⟩) X5.length c5)).run Try.prog w' = .ok (.string s) w' ∧ (convert 31 9 (.slice (some ⟨w5.heap.size, 0, none⟩) zm zm)).run Try.prog w' = .ok (.string s) w') (fun _ h => h.1) ⟨HCV.out _ (by (repeat' (first | exact Below.refl _ _ | assumption | refine b_alloc ?_ _ | refine b_over ?_ _ | refine b_drew ?_ | refine b_call ?_ (by assumption)))), HCV2.out w5.drew⟩ (fun hHeld => ?_)
          refine atI 4 ?_
          iterate 2 (refine takeN (v := ?_) rfl (by rfl) ?_ hHeld ?_; rotate_left; (focus (intro w hSw; (try dsimp only at hSw); go_simp; try (with_reducible rfl))); (try simp only [Act.put, Nat.reduceAdd, List.getElem_toArray, List.getElem_cons_succ, List.getElem_cons_zero, List.setIfInBounds_toArray, List.set_cons_zero, List.set_cons_succ]))
          refine atIo ?_
          refine wpAnyH_done (by kernel_rfl) ?_ _
          clear hHeld K HCV HCV2 HB5 HL5
          obtain ⟨p0, p1, p2, _⟩ := blk3 H6.out.pr
          have pz := H6.out.pr.1
          unfold tp at p0
          by_cases hbx : (BX.length : Int) > zm
          · have hzc : (zm : Int) ≤ bc := by omega
            have HTK : Hid (ReadB w (.slice ba zm bc) (BX.take zm) ∧ (BX.take zm).length = zm) := ⟨readB_take HBX.out.1 (by omega), by rw [List.length_take]; omega⟩
            have HSR := astore_any H6.out.g.a.ar ((bsN 1 Z k : Nat) : Int) (.slice ba zm bc) (BX.take zm) (readB_below HTK.out.1 H6.out.be) (isBytes_take HBX.out.2 zm)
            generalize inE _ _ _ = qe at HSR
            unfold tp at HSR
            have HSS := Lib.hid HSR
            rw [HAT.out] at HSS
            clear HSR
            go_wp2_with fail
            refine HSS.out.mono ?_
            rintro e w7 ⟨rfl, A7, G7⟩
            rw [← HAT.out] at A7
            have H7 := Lib.hid (w7_store H6.out hkN HLV.out (by rw [HTK.out.2, HZM.out.2]; exact Nat.le_refl _) A7 G7)
            clear A7 G7 HSS p0 p1 p2 pz
            obtain ⟨p0, p1, p2, _⟩ := blk3 H7.out.pr
            have pz := H7.out.pr.1
            unfold sp at p1
            have HCK := Lib.hid (scheck_any H7.out.g.a H7.out.g.g)
            unfold sp at HCK
            go_wp2_with fail
            refine HCK.out.mono ?_
            rintro e wz ⟨rfl, hbz⟩
            have HZ := Lib.hid (w7_below H7.out hbz)
            clear hbz p0 p1 p2 pz HCK
            go_wp2_with fail
            go_roundw
            case rel => exact ⟨j + 1, by omega, by first | rfl | go_num, ⟨BX.take zm, ba, bc, by rw [HTK.out.2], by rw [HTK.out.2]; omega, hx2, Lib.hid ⟨by rw [HTK.out.2]; exact HTK.out.1, isBytes_take HBX.out.2 zm⟩, Lib.hid ⟨_, _, HZ.out⟩⟩⟩
            case measure => simp [intOf] <;> omega
          · have hbz : BX.length ≤ zm := by omega
            have HSR := astore_any H6.out.g.a.ar ((bsN 1 Z k : Nat) : Int) (.slice ba BX.length bc) BX (readB_below HBX.out.1 H6.out.be) HBX.out.2
            generalize inE _ _ _ = qe at HSR
            unfold tp at HSR
            have HSS := Lib.hid HSR
            rw [HAT.out] at HSS
            have HBZ := Lib.hid hbz
            clear HSR hbz
            go_wp2_with fail
            refine HSS.out.mono ?_
            rintro e w7 ⟨rfl, A7, G7⟩
            rw [← HAT.out] at A7
            have H7 := Lib.hid (w7_store H6.out hkN HLV.out (by rw [HZM.out.2]; exact HBZ.out) A7 G7)
            clear A7 G7 HSS p0 p1 p2 pz
            obtain ⟨p0, p1, p2, _⟩ := blk3 H7.out.pr
            have pz := H7.out.pr.1
            unfold sp at p1
            have HCK := Lib.hid (scheck_any H7.out.g.a H7.out.g.g)
            unfold sp at HCK
            go_wp2_with fail
            refine HCK.out.mono ?_
            rintro e wz ⟨rfl, hbz⟩
            have HZ := Lib.hid (w7_below H7.out hbz)
            clear hbz p0 p1 p2 pz HCK
            go_wp2_with fail
            go_roundw
            case rel => exact ⟨j + 1, by omega, by first | rfl | go_num, ⟨BX, ba, bc, rfl, hx1, hx2, HBX, Lib.hid ⟨_, _, HZ.out⟩⟩⟩
            case measure => simp [intOf] <;> omega
      by_cases k4 : kd ≤ 4
      · by_cases hst : stI m ok = 1
        · have HQ := Lib.hid hst
          have HSH2 : Hid (∀ w', GrowX W2 w' (slX b) → (w'.cell? ⟨p, 1, none⟩ = some (.pointer (some ⟨b.s, 0, none⟩)) ∧ w'.cell? ⟨W1.heap.size, 1, none⟩ = some (.int .i64 ok))) := Lib.hid (fun w' hg => by
            have z1 := (blk_gx H2.out.pr hg H2.out.np).2.1 1 (by simp)
            have z2 := (blk_gx HX2.out hg HNQ.out).2.1 1 (by simp)
            exact ⟨by simpa [sp] using z1, by simpa using z2⟩)
          have H2d := Lib.hid (w7_below H2.out (b_drew (Below.refl W2.heap.size W2)))
          have HSS := Lib.hid (sstate_any H2d.out.g.a ok)
          rw [hst] at HSS
          unfold sp at HSS
          go_upto_region 9 with fail
          clear p0 p1 p2 pz x0 x1 x2 x3 xf xz
          refine wp_region_held_drew (S := fun w' => (w'.cell? ⟨p, 1, none⟩ = some (.pointer (some ⟨b.s, 0, none⟩)) ∧ w'.cell? ⟨W1.heap.size, 1, none⟩ = some (.int .i64 ok))) (by kernel_rfl) (HSH2.out _ (gx_below (b_drew (Below.refl _ _)) _)) (fun hHeld => ?_)
          refine atI 0 ?_
          iterate 6 (refine takeN (v := ?_) rfl (by rfl) ?_ hHeld ?_; rotate_left; (focus (intro w hSw; (try dsimp only at hSw); go_simp; try (with_reducible rfl))); (try simp only [Act.put, Nat.reduceAdd, List.getElem_toArray, List.getElem_cons_succ, List.getElem_cons_zero, List.setIfInBounds_toArray, List.set_cons_zero, List.set_cons_succ]))
          refine atIo ?_
          refine wpAnyH_ready (rs := [6]) (by kernel_rfl) (by simp) (AllReadyH.cons rfl (fun K hK => ?_) AllReadyH.nil)
          go_simp
          refine HSS.out.mono ?_
          rintro e w4 ⟨rfl, rfl⟩
          refine hK.out _ _ (HSH2.out _ (gx_below (b_drew (Below.refl _ _)) _)) (fun hHeld => ?_)
          clear hK K
          (try simp only [Act.put, List.getElem_toArray, List.getElem_cons_succ, List.getElem_cons_zero, List.setIfInBounds_toArray, List.set_cons_zero, List.set_cons_succ])
          (refine wpAnyH_take (i := 7) (v := ?_) rfl (by kernel_rfl) (by kernel_rfl) (by kernel_rfl) (fun _ _ _ h => h) (Or.inl ⟨by rfl, ?_⟩) hHeld ?_; rotate_left; (focus (intro w hSw; (try dsimp only at hSw); go_simp; try (with_reducible rfl))); (try simp only [Act.put, List.getElem_toArray, List.getElem_cons_succ, List.getElem_cons_zero, List.setIfInBounds_toArray, List.set_cons_zero, List.set_cons_succ]))
          refine wpAnyH_done (by kernel_rfl) ?_ _
          have H3 := H2d
          have HX3 := Lib.hid (blk_below HX2.out (b_drew (Below.refl _ _)))
          clear hst HSS hHeld
          obtain ⟨kk, ek, hkN, hkl⟩ := good_st1 H2.out.g.g HQ.out
          have H3d := Lib.hid (w7_below H3.out (b_drew (Below.refl W2.drew.heap.size W2.drew)))
          have HD := Lib.hid (sdrop_yes H3d.out.g.a H3d.out.g.g hkN hkl)
          rw [← ek] at HD
          clear ek
          unfold sp at HD
          obtain ⟨p0, p1, p2, _⟩ := blk3 H3.out.pr
          have pz := H3.out.pr.1
          unfold sp at p1
          obtain ⟨x0, x1, x2, x3, xf⟩ := blk4 HX3.out
          have xz := HX3.out.1
          go_upto_region 22 with fail
          clear p0 p1 p2 pz x0 x1 x2 x3 xf xz
          refine wp_region_held_drew (S := fun w' => (w'.cell? ⟨p, 1, none⟩ = some (.pointer (some ⟨b.s, 0, none⟩)) ∧ w'.cell? ⟨W1.heap.size, 1, none⟩ = some (.int .i64 ok))) (by kernel_rfl) (HSH2.out _ (gx_below (b_drew (b_drew (Below.refl _ _))) _)) (fun hHeld => ?_)
          refine atI 0 ?_
          iterate 6 (refine takeN (v := ?_) rfl (by rfl) ?_ hHeld ?_; rotate_left; (focus (intro w hSw; (try dsimp only at hSw); go_simp; try (with_reducible rfl))); (try simp only [Act.put, Nat.reduceAdd, List.getElem_toArray, List.getElem_cons_succ, List.getElem_cons_zero, List.setIfInBounds_toArray, List.set_cons_zero, List.set_cons_succ]))
          refine atIo ?_
          refine wpAnyH_ready (rs := [6]) (by kernel_rfl) (by simp) (AllReadyH.cons rfl (fun K hK => ?_) AllReadyH.nil)
          go_simp
          refine HD.out.mono ?_
          rintro e w4 ⟨rfl, ha4, hg4⟩
          have H4 := Lib.hid (w7_turn H3d.out ha4 (good_drop H3d.out.g.g hkN hkl).1 hg4)
          have HG4 := Lib.hid (gx_pre (b_drew (b_drew (Below.refl W2.heap.size W2))) hg4)
          clear ha4 hg4
          refine hK.out _ _ (HSH2.out _ HG4.out) (fun hHeld => ?_)
          clear hK K
          (try simp only [Act.put, List.getElem_toArray, List.getElem_cons_succ, List.getElem_cons_zero, List.setIfInBounds_toArray, List.set_cons_zero, List.set_cons_succ])
          refine atI 7 ?_
          iterate 5 (refine takeN (v := ?_) rfl (by rfl) ?_ hHeld ?_; rotate_left; (focus (intro w hSw; (try dsimp only at hSw); go_simp; try (with_reducible rfl))); (try simp only [Act.put, Nat.reduceAdd, List.getElem_toArray, List.getElem_cons_succ, List.getElem_cons_zero, List.setIfInBounds_toArray, List.set_cons_zero, List.set_cons_succ]))
          refine atIo ?_
          refine wpAnyH_done (by kernel_rfl) ?_ _
          obtain ⟨p0, p1, p2, _⟩ := blk3 H4.out.pr
          have pz := H4.out.pr.1
          unfold sp at p1
          have HCK := Lib.hid (scheck_any H4.out.g.a H4.out.g.g)
          unfold sp at HCK
          go_wp2_with fail
          refine HCK.out.mono ?_
          rintro e wz ⟨rfl, hbz⟩
          have HZ := Lib.hid (w7_below H4.out hbz)
          clear hbz p0 p1 p2 pz HCK
          go_wp2_with fail
          go_roundw
          case rel => exact ⟨j + 1, by omega, by first | rfl | go_num, ⟨BX, ba, bc, rfl, hx1, hx2, HBX, Lib.hid ⟨_, _, HZ.out⟩⟩⟩
          case measure => simp [intOf] <;> omega
        · have HNE := Lib.hid hst
          clear hst
          obtain ⟨st, hst⟩ : ∃ st, stI m ok = st := ⟨_, rfl⟩
          have hs1 : (st == 1) = false := beq_false_of_ne (by rw [← hst]; exact HNE.out)
          have HST := Lib.hid hst
          have HSH2 : Hid (∀ w', GrowX W2 w' (slX b) → (w'.cell? ⟨p, 1, none⟩ = some (.pointer (some ⟨b.s, 0, none⟩)) ∧ w'.cell? ⟨W1.heap.size, 1, none⟩ = some (.int .i64 ok))) := Lib.hid (fun w' hg => by
            have z1 := (blk_gx H2.out.pr hg H2.out.np).2.1 1 (by simp)
            have z2 := (blk_gx HX2.out hg HNQ.out).2.1 1 (by simp)
            exact ⟨by simpa [sp] using z1, by simpa using z2⟩)
          have H2d := Lib.hid (w7_below H2.out (b_drew (Below.refl W2.heap.size W2)))
          have HSS := Lib.hid (sstate_any H2d.out.g.a ok)
          rw [hst] at HSS
          unfold sp at HSS
          go_upto_region 9 with fail
          clear p0 p1 p2 pz x0 x1 x2 x3 xf xz
          refine wp_region_held_drew (S := fun w' => (w'.cell? ⟨p, 1, none⟩ = some (.pointer (some ⟨b.s, 0, none⟩)) ∧ w'.cell? ⟨W1.heap.size, 1, none⟩ = some (.int .i64 ok))) (by kernel_rfl) (HSH2.out _ (gx_below (b_drew (Below.refl _ _)) _)) (fun hHeld => ?_)
          refine atI 0 ?_
          iterate 6 (refine takeN (v := ?_) rfl (by rfl) ?_ hHeld ?_; rotate_left; (focus (intro w hSw; (try dsimp only at hSw); go_simp; try (with_reducible rfl))); (try simp only [Act.put, Nat.reduceAdd, List.getElem_toArray, List.getElem_cons_succ, List.getElem_cons_zero, List.setIfInBounds_toArray, List.set_cons_zero, List.set_cons_succ]))
          refine atIo ?_
          refine wpAnyH_ready (rs := [6]) (by kernel_rfl) (by simp) (AllReadyH.cons rfl (fun K hK => ?_) AllReadyH.nil)
          go_simp
          refine HSS.out.mono ?_
          rintro e w4 ⟨rfl, rfl⟩
          refine hK.out _ _ (HSH2.out _ (gx_below (b_drew (Below.refl _ _)) _)) (fun hHeld => ?_)
          clear hK K
          (try simp only [Act.put, List.getElem_toArray, List.getElem_cons_succ, List.getElem_cons_zero, List.setIfInBounds_toArray, List.set_cons_zero, List.set_cons_succ])
          (refine wpAnyH_take (i := 7) (v := ?_) rfl (by kernel_rfl) (by kernel_rfl) (by kernel_rfl) (fun _ _ _ h => h) (Or.inl ⟨by rfl, ?_⟩) hHeld ?_; rotate_left; (focus (intro w hSw; (try dsimp only at hSw); go_simp; try (with_reducible rfl))); (try simp only [Act.put, List.getElem_toArray, List.getElem_cons_succ, List.getElem_cons_zero, List.setIfInBounds_toArray, List.set_cons_zero, List.set_cons_succ]))
          refine wpAnyH_done (by kernel_rfl) ?_ _
          have H3 := H2d
          have HX3 := Lib.hid (blk_below HX2.out (b_drew (Below.refl _ _)))
          clear hst HSS hHeld
          have H3d := Lib.hid (w7_below H3.out (b_drew (Below.refl W2.drew.heap.size W2.drew)))
          have HD := Lib.hid (sdrop_no H3d.out.g.a ok HNE.out)
          have hme : (mustE m ok 1 == 0) = false := by rcases mustE_no HNE.out with q | q <;> rw [q] <;> rfl
          generalize mustE m ok 1 = me at *
          unfold sp at HD
          obtain ⟨p0, p1, p2, _⟩ := blk3 H3.out.pr
          have pz := H3.out.pr.1
          unfold sp at p1
          obtain ⟨x0, x1, x2, x3, xf⟩ := blk4 HX3.out
          have xz := HX3.out.1
          go_upto_region 22 with fail
          clear p0 p1 p2 pz x0 x1 x2 x3 xf xz
          refine wp_region_held_drew (S := fun w' => (w'.cell? ⟨p, 1, none⟩ = some (.pointer (some ⟨b.s, 0, none⟩)) ∧ w'.cell? ⟨W1.heap.size, 1, none⟩ = some (.int .i64 ok))) (by kernel_rfl) (HSH2.out _ (gx_below (b_drew (b_drew (Below.refl _ _))) _)) (fun hHeld => ?_)
          refine atI 0 ?_
          iterate 6 (refine takeN (v := ?_) rfl (by rfl) ?_ hHeld ?_; rotate_left; (focus (intro w hSw; (try dsimp only at hSw); go_simp; try (with_reducible rfl))); (try simp only [Act.put, Nat.reduceAdd, List.getElem_toArray, List.getElem_cons_succ, List.getElem_cons_zero, List.setIfInBounds_toArray, List.set_cons_zero, List.set_cons_succ]))
          refine atIo ?_
          refine wpAnyH_ready (rs := [6]) (by kernel_rfl) (by simp) (AllReadyH.cons rfl (fun K hK => ?_) AllReadyH.nil)
          go_simp
          refine HD.out.mono ?_
          rintro e w4 ⟨rfl, rfl⟩
          refine hK.out _ _ (HSH2.out _ (gx_below (b_drew (b_drew (Below.refl _ _))) _)) (fun hHeld => ?_)
          clear hK K
          (try simp only [Act.put, List.getElem_toArray, List.getElem_cons_succ, List.getElem_cons_zero, List.setIfInBounds_toArray, List.set_cons_zero, List.set_cons_succ])
          refine atI 7 ?_
          iterate 5 (refine takeN (v := ?_) rfl (by rfl) ?_ hHeld ?_; rotate_left; (focus (intro w hSw; (try dsimp only at hSw); go_simp; try (with_reducible rfl))); (try simp only [Act.put, Nat.reduceAdd, List.getElem_toArray, List.getElem_cons_succ, List.getElem_cons_zero, List.setIfInBounds_toArray, List.set_cons_zero, List.set_cons_succ]))
          refine atIo ?_
          refine wpAnyH_done (by kernel_rfl) ?_ _
          obtain ⟨p0, p1, p2, _⟩ := blk3 H3d.out.pr
          have pz := H3d.out.pr.1
          unfold sp at p1
          have HCK := Lib.hid (scheck_any H3d.out.g.a H3d.out.g.g)
          unfold sp at HCK
          go_wp2_with fail
          refine HCK.out.mono ?_
          rintro e wz ⟨rfl, hbz⟩
          have HZ := Lib.hid (w7_below H3d.out hbz)
          clear hbz p0 p1 p2 pz HCK
          go_wp2_with fail
          go_roundw
          case rel => exact ⟨j + 1, by omega, by first | rfl | go_num, ⟨BX, ba, bc, rfl, hx1, hx2, HBX, Lib.hid ⟨_, _, HZ.out⟩⟩⟩
          case measure => simp [intOf] <;> omega
      · by_cases hst : stI m ok = 2
        · have HQ := Lib.hid hst
          have HSH2 : Hid (∀ w', GrowX W2 w' (slX b) → (w'.cell? ⟨p, 1, none⟩ = some (.pointer (some ⟨b.s, 0, none⟩)) ∧ w'.cell? ⟨W1.heap.size, 1, none⟩ = some (.int .i64 ok))) := Lib.hid (fun w' hg => by
            have z1 := (blk_gx H2.out.pr hg H2.out.np).2.1 1 (by simp)
            have z2 := (blk_gx HX2.out hg HNQ.out).2.1 1 (by simp)
            exact ⟨by simpa [sp] using z1, by simpa using z2⟩)
          have H2d := Lib.hid (w7_below H2.out (b_drew (Below.refl W2.heap.size W2)))
          have HSS := Lib.hid (sstate_any H2d.out.g.a ok)
          rw [hst] at HSS
          unfold sp at HSS
          go_upto_region 9 with fail
          clear p0 p1 p2 pz x0 x1 x2 x3 xf xz
          refine wp_region_held_drew (S := fun w' => (w'.cell? ⟨p, 1, none⟩ = some (.pointer (some ⟨b.s, 0, none⟩)) ∧ w'.cell? ⟨W1.heap.size, 1, none⟩ = some (.int .i64 ok))) (by kernel_rfl) (HSH2.out _ (gx_below (b_drew (Below.refl _ _)) _)) (fun hHeld => ?_)
          refine atI 0 ?_
          iterate 6 (refine takeN (v := ?_) rfl (by rfl) ?_ hHeld ?_; rotate_left; (focus (intro w hSw; (try dsimp only at hSw); go_simp; try (with_reducible rfl))); (try simp only [Act.put, Nat.reduceAdd, List.getElem_toArray, List.getElem_cons_succ, List.getElem_cons_zero, List.setIfInBounds_toArray, List.set_cons_zero, List.set_cons_succ]))
          refine atIo ?_
          refine wpAnyH_ready (rs := [6]) (by kernel_rfl) (by simp) (AllReadyH.cons rfl (fun K hK => ?_) AllReadyH.nil)
          go_simp
          refine HSS.out.mono ?_
          rintro e w4 ⟨rfl, rfl⟩
          refine hK.out _ _ (HSH2.out _ (gx_below (b_drew (Below.refl _ _)) _)) (fun hHeld => ?_)
          clear hK K
          (try simp only [Act.put, List.getElem_toArray, List.getElem_cons_succ, List.getElem_cons_zero, List.setIfInBounds_toArray, List.set_cons_zero, List.set_cons_succ])
          (refine wpAnyH_take (i := 7) (v := ?_) rfl (by kernel_rfl) (by kernel_rfl) (by kernel_rfl) (fun _ _ _ h => h) (Or.inl ⟨by rfl, ?_⟩) hHeld ?_; rotate_left; (focus (intro w hSw; (try dsimp only at hSw); go_simp; try (with_reducible rfl))); (try simp only [Act.put, List.getElem_toArray, List.getElem_cons_succ, List.getElem_cons_zero, List.setIfInBounds_toArray, List.set_cons_zero, List.set_cons_succ]))
          refine wpAnyH_done (by kernel_rfl) ?_ _
          have H3 := H2d
          have HX3 := Lib.hid (blk_below HX2.out (b_drew (Below.refl _ _)))
          clear hst HSS hHeld
          obtain ⟨kk, ek, hkN, hk0, hkl⟩ := good_st2 H2.out.g.g HQ.out
          have H3d := Lib.hid (w7_below H3.out (b_drew (Below.refl W2.drew.heap.size W2.drew)))
          have HD := Lib.hid (sgive_yes H3d.out.g.a H3d.out.g.g hkN hk0 hkl)
          rw [← ek] at HD
          clear ek
          unfold sp at HD
          obtain ⟨p0, p1, p2, _⟩ := blk3 H3.out.pr
          have pz := H3.out.pr.1
          unfold sp at p1
          obtain ⟨x0, x1, x2, x3, xf⟩ := blk4 HX3.out
          have xz := HX3.out.1
          go_upto_region 25 with fail
          clear p0 p1 p2 pz x0 x1 x2 x3 xf xz
          refine wp_region_held_drew (S := fun w' => (w'.cell? ⟨p, 1, none⟩ = some (.pointer (some ⟨b.s, 0, none⟩)) ∧ w'.cell? ⟨W1.heap.size, 1, none⟩ = some (.int .i64 ok))) (by kernel_rfl) (HSH2.out _ (gx_below (b_drew (b_drew (Below.refl _ _))) _)) (fun hHeld => ?_)
          refine atI 0 ?_
          iterate 6 (refine takeN (v := ?_) rfl (by rfl) ?_ hHeld ?_; rotate_left; (focus (intro w hSw; (try dsimp only at hSw); go_simp; try (with_reducible rfl))); (try simp only [Act.put, Nat.reduceAdd, List.getElem_toArray, List.getElem_cons_succ, List.getElem_cons_zero, List.setIfInBounds_toArray, List.set_cons_zero, List.set_cons_succ]))
          refine atIo ?_
          refine wpAnyH_ready (rs := [6]) (by kernel_rfl) (by simp) (AllReadyH.cons rfl (fun K hK => ?_) AllReadyH.nil)
          go_simp
          refine HD.out.mono ?_
          rintro e w4 ⟨rfl, ha4, hg4⟩
          have H4 := Lib.hid (w7_turn H3d.out ha4 (good_give H3d.out.g.g hkN hk0 hkl).1 hg4)
          have HG4 := Lib.hid (gx_pre (b_drew (b_drew (Below.refl W2.heap.size W2))) hg4)
          clear ha4 hg4
          refine hK.out _ _ (HSH2.out _ HG4.out) (fun hHeld => ?_)
          clear hK K
          (try simp only [Act.put, List.getElem_toArray, List.getElem_cons_succ, List.getElem_cons_zero, List.setIfInBounds_toArray, List.set_cons_zero, List.set_cons_succ])
          (refine wpAnyH_take (i := 7) (v := ?_) rfl (by kernel_rfl) (by kernel_rfl) (by kernel_rfl) (fun _ _ _ h => h) (Or.inl ⟨by rfl, ?_⟩) hHeld ?_; rotate_left; (focus (intro w hSw; (try dsimp only at hSw); go_simp; try (with_reducible rfl))); (try simp only [Act.put, List.getElem_toArray, List.getElem_cons_succ, List.getElem_cons_zero, List.setIfInBounds_toArray, List.set_cons_zero, List.set_cons_succ]))
          refine wpAnyH_done (by kernel_rfl) ?_ _
          obtain ⟨p0, p1, p2, _⟩ := blk3 H4.out.pr
          have pz := H4.out.pr.1
          unfold sp at p1
          have HCK := Lib.hid (scheck_any H4.out.g.a H4.out.g.g)
          unfold sp at HCK
          go_wp2_with fail
          refine HCK.out.mono ?_
          rintro e wz ⟨rfl, hbz⟩
          have HZ := Lib.hid (w7_below H4.out hbz)
          clear hbz p0 p1 p2 pz HCK
          go_wp2_with fail
          go_roundw
          case rel => exact ⟨j + 1, by omega, by first | rfl | go_num, ⟨BX, ba, bc, rfl, hx1, hx2, HBX, Lib.hid ⟨_, _, HZ.out⟩⟩⟩
          case measure => simp [intOf] <;> omega
        · have HNE := Lib.hid hst
          clear hst
          obtain ⟨st, hst⟩ : ∃ st, stI m ok = st := ⟨_, rfl⟩
          have hs1 : (st == 2) = false := beq_false_of_ne (by rw [← hst]; exact HNE.out)
          have HST := Lib.hid hst
          have HSH2 : Hid (∀ w', GrowX W2 w' (slX b) → (w'.cell? ⟨p, 1, none⟩ = some (.pointer (some ⟨b.s, 0, none⟩)) ∧ w'.cell? ⟨W1.heap.size, 1, none⟩ = some (.int .i64 ok))) := Lib.hid (fun w' hg => by
            have z1 := (blk_gx H2.out.pr hg H2.out.np).2.1 1 (by simp)
            have z2 := (blk_gx HX2.out hg HNQ.out).2.1 1 (by simp)
            exact ⟨by simpa [sp] using z1, by simpa using z2⟩)
          have H2d := Lib.hid (w7_below H2.out (b_drew (Below.refl W2.heap.size W2)))
          have HSS := Lib.hid (sstate_any H2d.out.g.a ok)
          rw [hst] at HSS
          unfold sp at HSS
          go_upto_region 9 with fail
          clear p0 p1 p2 pz x0 x1 x2 x3 xf xz
          refine wp_region_held_drew (S := fun w' => (w'.cell? ⟨p, 1, none⟩ = some (.pointer (some ⟨b.s, 0, none⟩)) ∧ w'.cell? ⟨W1.heap.size, 1, none⟩ = some (.int .i64 ok))) (by kernel_rfl) (HSH2.out _ (gx_below (b_drew (Below.refl _ _)) _)) (fun hHeld => ?_)
          refine atI 0 ?_
          iterate 6 (refine takeN (v := ?_) rfl (by rfl) ?_ hHeld ?_; rotate_left; (focus (intro w hSw; (try dsimp only at hSw); go_simp; try (with_reducible rfl))); (try simp only [Act.put, Nat.reduceAdd, List.getElem_toArray, List.getElem_cons_succ, List.getElem_cons_zero, List.setIfInBounds_toArray, List.set_cons_zero, List.set_cons_succ]))
          refine atIo ?_
          refine wpAnyH_ready (rs := [6]) (by kernel_rfl) (by simp) (AllReadyH.cons rfl (fun K hK => ?_) AllReadyH.nil)
          go_simp
          refine HSS.out.mono ?_
          rintro e w4 ⟨rfl, rfl⟩
          refine hK.out _ _ (HSH2.out _ (gx_below (b_drew (Below.refl _ _)) _)) (fun hHeld => ?_)
          clear hK K
          (try simp only [Act.put, List.getElem_toArray, List.getElem_cons_succ, List.getElem_cons_zero, List.setIfInBounds_toArray, List.set_cons_zero, List.set_cons_succ])
          (refine wpAnyH_take (i := 7) (v := ?_) rfl (by kernel_rfl) (by kernel_rfl) (by kernel_rfl) (fun _ _ _ h => h) (Or.inl ⟨by rfl, ?_⟩) hHeld ?_; rotate_left; (focus (intro w hSw; (try dsimp only at hSw); go_simp; try (with_reducible rfl))); (try simp only [Act.put, List.getElem_toArray, List.getElem_cons_succ, List.getElem_cons_zero, List.setIfInBounds_toArray, List.set_cons_zero, List.set_cons_succ]))
          refine wpAnyH_done (by kernel_rfl) ?_ _
          have H3 := H2d
          have HX3 := Lib.hid (blk_below HX2.out (b_drew (Below.refl _ _)))
          clear hst HSS hHeld
          have H3d := Lib.hid (w7_below H3.out (b_drew (Below.refl W2.drew.heap.size W2.drew)))
          have HD := Lib.hid (sgive_no H3d.out.g.a ok HNE.out)
          have hme : (mustE m ok 2 == 0) = false := by rcases mustE_no HNE.out with q | q <;> rw [q] <;> rfl
          generalize mustE m ok 2 = me at *
          unfold sp at HD
          obtain ⟨p0, p1, p2, _⟩ := blk3 H3.out.pr
          have pz := H3.out.pr.1
          unfold sp at p1
          obtain ⟨x0, x1, x2, x3, xf⟩ := blk4 HX3.out
          have xz := HX3.out.1
          go_upto_region 25 with fail
          clear p0 p1 p2 pz x0 x1 x2 x3 xf xz
          refine wp_region_held_drew (S := fun w' => (w'.cell? ⟨p, 1, none⟩ = some (.pointer (some ⟨b.s, 0, none⟩)) ∧ w'.cell? ⟨W1.heap.size, 1, none⟩ = some (.int .i64 ok))) (by kernel_rfl) (HSH2.out _ (gx_below (b_drew (b_drew (Below.refl _ _))) _)) (fun hHeld => ?_)
          refine atI 0 ?_
          iterate 6 (refine takeN (v := ?_) rfl (by rfl) ?_ hHeld ?_; rotate_left; (focus (intro w hSw; (try dsimp only at hSw); go_simp; try (with_reducible rfl))); (try simp only [Act.put, Nat.reduceAdd, List.getElem_toArray, List.getElem_cons_succ, List.getElem_cons_zero, List.setIfInBounds_toArray, List.set_cons_zero, List.set_cons_succ]))
          refine atIo ?_
          refine wpAnyH_ready (rs := [6]) (by kernel_rfl) (by simp) (AllReadyH.cons rfl (fun K hK => ?_) AllReadyH.nil)
          go_simp
          refine HD.out.mono ?_
          rintro e w4 ⟨rfl, rfl⟩
          refine hK.out _ _ (HSH2.out _ (gx_below (b_drew (b_drew (Below.refl _ _))) _)) (fun hHeld => ?_)
          clear hK K
          (try simp only [Act.put, List.getElem_toArray, List.getElem_cons_succ, List.getElem_cons_zero, List.setIfInBounds_toArray, List.set_cons_zero, List.set_cons_succ])
          (refine wpAnyH_take (i := 7) (v := ?_) rfl (by kernel_rfl) (by kernel_rfl) (by kernel_rfl) (fun _ _ _ h => h) (Or.inl ⟨by rfl, ?_⟩) hHeld ?_; rotate_left; (focus (intro w hSw; (try dsimp only at hSw); go_simp; try (with_reducible rfl))); (try simp only [Act.put, List.getElem_toArray, List.getElem_cons_succ, List.getElem_cons_zero, List.setIfInBounds_toArray, List.set_cons_zero, List.set_cons_succ]))
          refine wpAnyH_done (by kernel_rfl) ?_ _
          obtain ⟨p0, p1, p2, _⟩ := blk3 H3d.out.pr
          have pz := H3d.out.pr.1
          unfold sp at p1
          have HCK := Lib.hid (scheck_any H3d.out.g.a H3d.out.g.g)
          unfold sp at HCK
          go_wp2_with fail
          refine HCK.out.mono ?_
          rintro e wz ⟨rfl, hbz⟩
          have HZ := Lib.hid (w7_below H3d.out hbz)
          clear hbz p0 p1 p2 pz HCK
          go_wp2_with fail
          go_roundw
          case rel => exact ⟨j + 1, by omega, by first | rfl | go_num, ⟨BX, ba, bc, rfl, hx1, hx2, HBX, Lib.hid ⟨_, _, HZ.out⟩⟩⟩
          case measure => simp [intOf] <;> omega
    · have j1 : ¬ ((j : Int) < M.length) := by omega
      have HS3 := cntS_all m N (by rw [H1.out.g.g.ll]; exact Nat.le_refl _)
      have Hd := Lib.hid (w7_below H1.out (b_drew (Below.refl W1.heap.size W1)))
      have HC0 := scount_any Hd.out.g.a 0
      have HC1 := scount_any Hd.out.g.a 1
      have HC2 := scount_any Hd.out.g.a 2
      rw [Hd.out.g.g.ll] at HC0 HC1 HC2
      generalize cntS m 0 N = n0 at *
      generalize cntS m 1 N = n1 at *
      generalize cntS m 2 N = n2 at *
      have hn16 := HN16.out
      have hw0 : IntKind.i64.wrap ((n0 : Int) + n1) = n0 + n1 := by rw [IntKind.wrap_i64]; omega
      have hw1 : IntKind.i64.wrap ((n0 : Int) + n1 + n2) = n0 + n1 + n2 := by rw [IntKind.wrap_i64]; omega
      have HRL3 : Hid (∀ w, Calls Try.prog 56 #[.int .i64 cl] w fun e w' => e = .returned (.int .i64 ((n0 : Int) + n1 + n2)) ∧ w = w') := Lib.hid (fun w => by have q := HRL.out w; rw [show (N : Int) = (n0 : Int) + n1 + n2 by omega] at q; exact q)
      have HD0 := Lib.hid HC0
      have HD1 := Lib.hid HC1
      have HD2 := Lib.hid HC2
      have HSP : Hid (W1.drew.cell? ⟨p, 1, none⟩ = some (.pointer (some ⟨b.s, 0, none⟩))) := Lib.hid (by have z := (blk3 Hd.out.pr).2.1; unfold sp at z; exact z)
      clear HC0 HC1 HC2 hn16 HS3
      unfold sp at HD0 HD1 HD2
      obtain ⟨p0, p1, p2, _⟩ := blk3 H1.out.pr
      have pz := H1.out.pr.1
      unfold sp at p1
      go_upto_region 31 with fail
      clear p0 p1 p2 pz
      refine wp_region_held_drew (S := fun w' => w'.cell? ⟨p, 1, none⟩ = some (.pointer (some ⟨b.s, 0, none⟩))) (by kernel_rfl) HSP.out (fun hHeld => ?_)
      refine atI 0 ?_
      iterate 4 (refine takeN (v := ?_) rfl (by rfl) ?_ hHeld ?_; rotate_left; (focus (intro w hSw; (try dsimp only at hSw); go_simp; try (with_reducible rfl))); (try simp only [Act.put, Nat.reduceAdd, List.getElem_toArray, List.getElem_cons_succ, List.getElem_cons_zero, List.setIfInBounds_toArray, List.set_cons_zero, List.set_cons_succ]))
      refine atIo ?_
      refine atI 5 ?_
      iterate 4 (refine takeN (v := ?_) rfl (by rfl) ?_ hHeld ?_; rotate_left; (focus (intro w hSw; (try dsimp only at hSw); go_simp; try (with_reducible rfl))); (try simp only [Act.put, Nat.reduceAdd, List.getElem_toArray, List.getElem_cons_succ, List.getElem_cons_zero, List.setIfInBounds_toArray, List.set_cons_zero, List.set_cons_succ]))
      refine atIo ?_
      refine atI 11 ?_
      iterate 4 (refine takeN (v := ?_) rfl (by rfl) ?_ hHeld ?_; rotate_left; (focus (intro w hSw; (try dsimp only at hSw); go_simp; try (with_reducible rfl))); (try simp only [Act.put, Nat.reduceAdd, List.getElem_toArray, List.getElem_cons_succ, List.getElem_cons_zero, List.setIfInBounds_toArray, List.set_cons_zero, List.set_cons_succ]))
      refine atIo ?_
      refine wpAnyH_ready (rs := [4]) (by kernel_rfl) (by simp) (AllReadyH.cons rfl (fun K hK => ?_) AllReadyH.nil)
      go_simp
      refine HD0.out.mono ?_
      rintro e w4 ⟨rfl, rfl⟩
      refine hK.out _ _ (HSP.out) (fun hHeld => ?_)
      clear hK K
      (try simp only [Act.put, List.getElem_toArray, List.getElem_cons_succ, List.getElem_cons_zero, List.setIfInBounds_toArray, List.set_cons_zero, List.set_cons_succ])
      refine wpAnyH_ready (rs := [9]) (by kernel_rfl) (by simp) (AllReadyH.cons rfl (fun K hK => ?_) AllReadyH.nil)
      go_simp
      refine HD1.out.mono ?_
      rintro e w4 ⟨rfl, rfl⟩
      refine hK.out _ _ (HSP.out) (fun hHeld => ?_)
      clear hK K
      (try simp only [Act.put, List.getElem_toArray, List.getElem_cons_succ, List.getElem_cons_zero, List.setIfInBounds_toArray, List.set_cons_zero, List.set_cons_succ])
      (refine wpAnyH_take (i := 10) (v := ?_) rfl (by kernel_rfl) (by kernel_rfl) (by kernel_rfl) (fun _ _ _ h => h) (Or.inl ⟨by rfl, ?_⟩) hHeld ?_; rotate_left; (focus (intro w hSw; (try dsimp only at hSw); go_simp; try (with_reducible rfl))); (try simp only [Act.put, List.getElem_toArray, List.getElem_cons_succ, List.getElem_cons_zero, List.setIfInBounds_toArray, List.set_cons_zero, List.set_cons_succ]))
      refine wpAnyH_ready (rs := [15]) (by kernel_rfl) (by simp) (AllReadyH.cons rfl (fun K hK => ?_) AllReadyH.nil)
      go_simp
      refine HD2.out.mono ?_
      rintro e w4 ⟨rfl, rfl⟩
      refine hK.out _ _ (HSP.out) (fun hHeld => ?_)
      clear hK K
      (try simp only [Act.put, List.getElem_toArray, List.getElem_cons_succ, List.getElem_cons_zero, List.setIfInBounds_toArray, List.set_cons_zero, List.set_cons_succ])
      refine atI 16 ?_
      iterate 2 (refine takeN (v := ?_) rfl (by rfl) ?_ hHeld ?_; rotate_left; (focus (intro w hSw; (try dsimp only at hSw); go_simp; try (with_reducible rfl))); (try simp only [Act.put, Nat.reduceAdd, List.getElem_toArray, List.getElem_cons_succ, List.getElem_cons_zero, List.setIfInBounds_toArray, List.set_cons_zero, List.set_cons_succ]))
      refine atIo ?_
      refine wpAnyH_done (by kernel_rfl) ?_ _
      go_wp2_with fail
      refine (HRL3.out _).mono ?_
      rintro e w4 ⟨rfl, rfl⟩
      go_wp2_with fail
      refine (awake7 _).mono ?_
      rintro e w5 ⟨rfl, hb5⟩
      have HB5 := Lib.hid (b_call Hd.out.be hb5)
      clear hb5
      go_wp2_with fail
      go_ret
      exact ⟨rfl, HB5.out⟩

end Go.Proofs.Ytgbbnmjfkhconaa
