/- ArenaWhole, walked: whatever bytes and acts, the answer is true. Conditions: the bytes read as bytes, the acts as acts. -/
import Derived.Test.YtgbbnmjfkhconaaAreZ
namespace Go.Proofs.Ytgbbnmjfkhconaa
open Go.RowKit
set_option linter.unusedVariables false
set_option linter.unusedSimpArgs false
attribute [local go_sem] over_cell over_frozen
theorem told_pre (L : List Int) (A : List ActM) (i : Nat) : ∀ n, i ≤ n → toldL L A i <+: toldL L A n
  | 0, h => by have : i = 0 := by omega
               subst this; exact List.prefix_refl _
  | n + 1, h => by
    rcases Nat.lt_or_ge i (n + 1) with q | q
    · exact List.IsPrefix.trans (told_pre L A i n (by omega)) (List.prefix_append _ _)
    · have : i = n + 1 := by omega
      subst this; exact List.prefix_refl _
theorem told_at {L : List Int} {A : List ActM} {i n : Nat} (hin : i < n) (hi : i < A.length) (hk : A[i].k = 0) : (toldL L A i).length < (toldL L A n).length ∧ (toldL L A n)[(toldL L A i).length]? = some (getW (stL L A i) A[i].a.toNat) := by
  have h := told_pre L A (i + 1) n (by omega)
  rw [toldL_yes hi hk] at h
  obtain ⟨t, ht⟩ := h
  constructor
  · rw [← ht]; simp
  · rw [← ht, List.append_assoc, List.getElem?_append_right (Nat.le_refl _)]; simp
theorem u64_at {w : World} {a : Option Addr} {n c : Nat} {T : List Int} (h : ReadR u64E w (.slice a n c) T) {k : Nat} (hk : k < T.length) : ∃ b o, a = some ⟨b, o, none⟩ ∧ n = T.length ∧ T.length ≤ c ∧ b < w.heap.size ∧ w.cell? ⟨b, o + k, none⟩ = some (.int .u64 T[k]) := by
  obtain ⟨b, o, cap, e, h1, h2, h3, h4⟩ := readR_pos h (by omega)
  cases e
  have := h4 k hk 0 (by decide)
  refine ⟨b, o, rfl, rfl, h1, h3, ?_⟩
  rw [show k * u64E.size + 0 = k by show k * 1 + 0 = k; omega] at this
  exact this
/-- What is between two rounds. -/
def WhS (w6 wr : World) (L : List Int) (A : List ActM) (i : Nat) (v : Value) : Prop := ∃ g cap, v = rowV g (stL L A i) cap ∧ RowAt wr g cap (stL L A i) ∧ Below w6.heap.size w6 wr
set_option maxRecDepth 100000 in
set_option maxHeartbeats 8000000 in
theorem arenaWhole_any (u v : Value) (M0 : List Int) (A0 : List ActM) (w : World) (hu : ReadB w u M0) (hb0 : IsBytes M0) (hv : ReadR actR w v A0) (hg0 : ∀ t ∈ A0, GoodA t) :
    Calls Try.prog 4 #[u, v] w fun e w' => e = .returned (.bool true) ∧ Below w.heap.size w w' := by
  obtain ⟨ua, uc, rfl⟩ := readB_len hu
  obtain ⟨va, vc, rfl, _, _⟩ := readR_len hv
  have hcp : M0.length ≤ uc ∧ uc ≤ maxLen := by obtain ⟨_, _, e, h1, h2, _⟩ := hu; cases e; exact ⟨h1, h2⟩
  have hcm := cap_le hcp.2
  have hcl : (M0.length : Int) ≤ uc := by omega
  have hcl2 : (M0.length : Int) ≤ 9223372036854775807 := by omega
  have HN := anew_any 1 w
  rw [show 256 * pagesN 1 = 256 by decide] at HN
  have HNW := Lib.hid HN
  have HU := Lib.hid hu
  have HB0 := Lib.hid hb0
  have HV := Lib.hid hv
  have HG0 := Lib.hid hg0
  clear hu hb0 hv hg0 HN hcp
  go_enter Try.func4, Try.ntmps4
  go_wp2_with fail
  refine HNW.out.mono ?_
  rintro e w1 ⟨b, g, cap, rfl, A1, hbw, hgw, hb1⟩
  have HA1 := Lib.hid A1
  have HB1 := Lib.hid hb1
  have HP : Hid (w.heap.size ≤ b ∧ w.heap.size ≤ g) := ⟨hbw, hgw⟩
  clear A1 hb1 hbw hgw
  unfold tp
  go_upto_if 20 with fail
  go_cut [0] (fun x wx => wx = w1 ∧ ∃ (M : List Int) (a : Option Addr) (c : Nat), x = .slice a M.length c ∧ M.length ≤ 256 ∧ ReadB w (.slice a M.length c) M ∧ IsBytes M)
  case first =>
    rcases (show 256 < (M0.length : Int) ∨ (M0.length : Int) ≤ 256 by omega) with q | q
    · have q2 : (256 : Int) ≤ uc := by omega
      have HM : Hid (ReadB w (.slice ua 256 uc) (M0.take 256) ∧ (M0.take 256).length = 256) := ⟨readB_take HU.out (by omega), by rw [List.length_take]; omega⟩
      go_wp2_with fail
      go_meet
      case rel => exact ⟨rfl, M0.take 256, ua, uc, by rw [HM.out.2], by rw [HM.out.2]; exact Nat.le_refl _, by rw [HM.out.2]; exact HM.out.1, isBytes_take HB0.out 256⟩
    · go_wp2_with fail
      go_meet
      case rel => exact ⟨rfl, M0, ua, uc, rfl, by omega, HU.out, HB0.out⟩
  case rest =>
  obtain ⟨rfl, M, ma, mc, rfl, hM, hMr, hMb⟩ := hcut
  obtain ⟨L, hL⟩ : ∃ L, L = lay (List.replicate 256 (0 : Int)) 0 M := ⟨_, rfl⟩
  have hLn : L.length = 256 := by rw [hL, lay_length (by rw [List.length_replicate]; omega), List.length_replicate]
  have hst := astore_any HA1.out 0 (.slice ma M.length mc) M (readB_below hMr HB1.out) hMb
  have e0 : inE (List.replicate 256 (0 : Int)).length 0 M.length = 0 := by
    rw [List.length_replicate]; exact inE_ok (k := 0) (m := M.length) (by omega)
  have e1 : storeL (List.replicate 256 0) 0 M = L := by unfold storeL; rw [if_pos e0, hL]; rfl
  rw [e0, e1] at hst
  have HST := Lib.hid hst
  have HLN := Lib.hid hLn
  clear hst e0 e1 hL hLn hM hMr hMb
  unfold tp at HST
  go_wp2_with fail
  refine HST.out.mono ?_
  rintro e w2 ⟨rfl, A2, G2⟩
  have hB2 : Below w.heap.size w w2 := b_grown HB1.out G2 HP.out.2
  have hld := aload_any A2 0 256
  have e2 : inE L.length 0 256 = 0 := by rw [HLN.out]; exact inE_ok (k := 0) (m := 256) (by omega)
  have e3 : loadL L 0 256 = L := by have := loadL_all L; rw [HLN.out] at this; exact this
  rw [e2, e3] at hld
  have HLD := Lib.hid hld
  have HA2 := Lib.hid A2
  have HB2 := Lib.hid hB2
  clear hld e2 e3 A2 G2 hB2
  unfold tp at HLD
  go_wp2_with fail
  refine HLD.out.mono ?_
  rintro e w3 ⟨ov, rfl, _, hb3, h3⟩
  obtain ⟨go, co, rfl, R3, hgo⟩ := h3 trivial
  have HA3 := Lib.hid (are_below HA2.out hb3)
  have HB3 := Lib.hid (b_call HB2.out hb3)
  have HR3 := Lib.hid R3
  have HGO : Hid (g < go) := by show g < go; have := HA2.out.rw.1; omega
  have HRT := Lib.hid (l3right_any _ A0 (readR_below HV.out HB3.out))
  clear R3 hgo hb3 h3
  unfold rowV at *
  go_wp2_with fail
  refine HRT.out.mono ?_
  rintro e w4 ⟨lv, rfl, own4, hb4⟩
  obtain ⟨A, hA⟩ : ∃ A, A = rightL A0 A0.length := ⟨_, rfl⟩
  rw [← hA] at own4
  have hA12 : A.length ≤ 12 := by rw [hA]; exact rightL_len _ _
  have hAg : ∀ t ∈ A, GoodA t ∧ KindA t := fun t ht => by
    rw [hA] at ht
    obtain ⟨m1, m2⟩ := rightL_mem A0 A0.length t ht
    exact ⟨HG0.out t m1, m2⟩
  have HB4 := Lib.hid (b_call HB3.out hb4)
  have HA4 := Lib.hid (are_below HA3.out hb4)
  have HR4 := Lib.hid (row_below HR3.out hb4)
  have hown := ownR_lt own4
  have HDO := Lib.hid (l3do_any HA4.out (ownR_read own4) hA12 hAg (fun j hj => by
    obtain ⟨z1, z2⟩ := hown j hj
    have := HA3.out.rw.1
    exact ⟨z2, by omega⟩))
  have HOW := Lib.hid own4
  have HA12 := Lib.hid hA12
  have HAG := Lib.hid hAg
  have HG4 : Hid (g < w3.heap.size ∧ go < w4.heap.size ∧ b < w3.heap.size) := ⟨HA3.out.rw.1, HR4.out.rw.1, HA3.out.hd.1⟩
  obtain ⟨la, lc, rfl, hlc, _⟩ := readR_len (ownR_read own4)
  clear own4 hb4 hown hA hA12 hAg
  unfold tp at HDO
  go_wp2_with fail
  refine HDO.out.mono ?_
  rintro e w5 ⟨n, x, tv, rfl, hdn, A5, told5, hto, G5⟩
  obtain ⟨ta, tc, rfl, htc, _⟩ := readR_len told5
  have hB5 : Below w.heap.size w w5 := b_gx HB4.out G5 (fun j e => by rw [e]; exact HP.out.2)
  have R5 : RowAt w5 go co L := ⟨blk_gx HR4.out.rw G5 (by have := HGO.out; omega), HR4.out.le, HR4.out.cp, HR4.out.by_, HR4.out.mx⟩
  have own5 : OwnR actR ACTT w5 w3.heap.size (.slice la A.length lc) A := ownR_gx HOW.out G5 (fun j hj e => by
    have := (ownR_lt HOW.out j hj).1; have := HG4.out; omega)
  have HA5 := Lib.hid A5
  have HT5 := Lib.hid told5
  have HB5 := Lib.hid hB5
  have HR5 := Lib.hid R5
  have HO5 := Lib.hid own5
  have HDN := Lib.hid hdn
  have hn12 : (n : Int) ≤ 12 := by have := hdn.1; have := HA12.out; omega
  have hnA : (n : Int) ≤ A.length := by have := hdn.1; omega
  have HNA : Hid (n ≤ A.length) := hdn.1
  clear hdn A5 told5 hto G5 hB5 R5 own5
  go_upto_region 9 with (at_builtin; refine appendR (c := byE) rowByte rfl _ _ rfl w5.heap.size _ [] rfl (own_emptyR (Nat.le_refl _)) _ L rfl (readR_below (readB_R (row_read HR5.out)) (b_alloc (Below.refl _ _) _)) ?c1 ?c2 ?c3 ?_; (case c1 => (have := HLN.out; simp; omega)); (case c2 => (have := HLN.out; unfold maxLen; simp; omega)); (case c3 => (simp)); intro v6 w6 own6 hg6)
  rw [List.nil_append] at own6
  have HB6 : Hid (Below w5.heap.size w5 w6) := b_ownR (b_alloc (Below.refl _ _) _) (own_emptyR (c := byE) (E := 5) (Nat.le_refl _)) hg6
  obtain ⟨gw, cw, rfl, f1, f2, f3, f4, f5⟩ := ownR_form own6 (by have := HLN.out; omega)
  rw [row_byts] at f5
  have R6 : RowAt w6 gw cw L := ⟨f5, f3, f4, HR5.out.by_, HR5.out.mx⟩
  have HBW6 := Lib.hid (b_call HB5.out HB6.out)
  have HA6 := Lib.hid (are_below HA5.out HB6.out)
  have HT6 := Lib.hid (readR_below HT5.out HB6.out)
  have HRO6 := Lib.hid (row_below HR5.out HB6.out)
  have HO6 := Lib.hid (ownR_below HO5.out HB6.out)
  have S0 : Hid (WhS w6 w6 L A 0 (.slice (some ⟨gw, 0, none⟩) L.length cw)) := ⟨gw, cw, rfl, R6, Below.refl _ _⟩
  clear own6 hg6 f1 f2 f3 f4 f5 R6
  go_wp2_with fail
  go_loopw [12, 13, 14] (fun rv kv iv wr => ∃ i : Nat, i ≤ n ∧ iv = .int .i64 i ∧ kv = .int .i64 (toldL L A i).length ∧ Hid (WhS w6 wr L A i rv)) (fun _ _ iv _ => n - (intOf iv).toNat)
  case atStart => exact ⟨0, Nat.zero_le _, rfl, rfl, S0.out⟩
  case round =>
    obtain ⟨i, hi, rfl, rfl, hS⟩ := hrel
    obtain ⟨gr, cr, rfl, Rr, hbr⟩ := hS.out
    have HRr := Lib.hid Rr
    have HBr := Lib.hid hbr
    have i0 : (0 : Int) ≤ i := by omega
    have htl := toldL_len L A i
    by_cases hlt : i < n
    · have hiA : i < A.length := by have := HNA.out; omega
      have i1 : (i : Int) < n := by omega
      have i2 : (i : Int) < A.length := by omega
      obtain ⟨lb, lo, lcap, e1, _, _, hlb, h4⟩ := readR_pos (ownR_read HO6.out) (by omega)
      cases e1
      obtain ⟨x0, x1, x2⟩ := act_cells h4 i hiA
      rw [← (bcell hbr).1 _ _ hlb] at x0 x1 x2
      have hact := HDN.out.2.1 i hlt A[i] (List.getElem?_eq_getElem hiA)
      have hst := stL_succ L A hiA
      have hgd := HAG.out _ (List.getElem_mem hiA)
      have htl2 := toldL_len L A (i + 1)
      have hTY := fun hk => told_at (L := L) hlt hiA hk
      have hTN := fun hk => toldL_no (L := L) hiA hk
      have hTS := fun hk => toldL_yes (L := L) hiA hk
      have hlcA : (A.length : Int) ≤ lc := by omega
      have hnl : ((toldL L A n).length : Int) ≤ tc := by omega
      generalize A[i] = t at *
      obtain ⟨tk, tt, tx⟩ := t
      simp only at x0 x1 x2 hTY hTN hTS
      obtain ⟨⟨hx0, hx1⟩, hkind⟩ := hgd
      simp only at hx0 hx1
      have HX : Hid (0 ≤ tx ∧ tx < 18446744073709551616) := ⟨hx0, hx1⟩
      have HST := Lib.hid hst
      have HACT := Lib.hid hact
      have ti1 : ((toldL L A i).length : Int) ≤ 12 := by omega
      have ti0 : (0 : Int) ≤ (toldL L A i).length := by omega
      have HTN := Lib.hid hTN
      have HTS := Lib.hid hTS
      have HTY := Lib.hid hTY
      have HLW : Hid ((stL L A i).length ≤ 65536) := HRr.out.mx
      clear Rr hbr h4 hst hact hx0 hx1 hTN hTS hTY htl htl2
      unfold rowV
      rcases (show tk = 0 ∨ tk = 1 ∨ tk = 2 from hkind) with h | h | h
      · subst h
        obtain ⟨q1, q2⟩ := HTY.out rfl
        have he : wordE (stL L A i).length tt = 0 := by have := HACT.out; rw [actE_get rfl] at this; exact this
        have HWD := r3word_any HRr.out tt
        rw [he, if_pos rfl] at HWD
        have HWH := Lib.hid HWD
        obtain ⟨tb, tof, e2, e3, e4, hlt2, hcell⟩ := u64_at HT6.out q1
        subst e2
        rw [← (bcell HBr.out).1 _ _ hlt2] at hcell
        rw [List.getElem?_eq_getElem q1] at q2
        injection q2 with q2
        rw [q2] at hcell
        have q1i : ((toldL L A i).length : Int) < (toldL L A n).length := by omega
        have HQ3 : Hid ((toldL L A (i + 1)).length = (toldL L A i).length + 1) := by show _ = _; rw [HTS.out rfl]; simp
        have HS2 : Hid (stL L A (i + 1) = stL L A i) := by show _ = _; rw [HST.out]; rfl
        clear q2 he HWD e3
        generalize getW (stL L A i) tt.toNat = y at *
        unfold rowV at HWH
        go_wp2_with fail
        refine HWH.out.mono ?_
        rintro e w7 ⟨rfl, rfl⟩
        go_wp2_with fail
        refine ⟨⟨i + 1, by omega, by go_num, by rw [HQ3.out]; go_num, gr, cr, by rw [HS2.out]; rfl, by rw [HS2.out]; exact HRr.out, HBr.out⟩, by simp only [intOf]; omega⟩
      · subst h
        have he : wordE (stL L A i).length tt = 0 := by have := HACT.out; rw [actE_set rfl] at this; exact this
        obtain ⟨p, rfl, hp⟩ : ∃ p : Nat, tt = p ∧ p + 8 ≤ (stL L A i).length := by
          rcases wordE_cases (stL L A i).length tt with ⟨h, _⟩ | ⟨h, _⟩ | ⟨_, _, k, e, hk, _⟩
          · omega
          · omega
          · exact ⟨k, e, hk⟩
        have HS2 : Hid (stL L A (i + 1) = lay (stL L A i) p (putL 8 tx)) := by show _ = _; rw [HST.out]; unfold actL; rw [if_pos rfl, setW_ok he, Int.toNat_natCast]
        have HQ3 : Hid (toldL L A (i + 1) = toldL L A i) := HTN.out (by decide)
        have HPP := Lib.hid hp
        have HXC : Hid (∀ w', Below wr.heap.size wr w' → w'.cell? ⟨lb, lo + i * 3 + 1, none⟩ = some (.int .i64 p) ∧ w'.cell? ⟨lb, lo + i * 3 + 2, none⟩ = some (.int .u64 tx)) := Lib.hid (fun w' hb => by
          have hl : lb < wr.heap.size := by have := HBr.out.size; omega
          exact ⟨by rw [(bcell hb).1 _ _ hl]; exact x1, by rw [(bcell hb).1 _ _ hl]; exact x2⟩)
        clear he hp
        go_wp2_with fail
        refine wp_region_held_drew (S := fun w' => w'.cell? ⟨lb, lo + i * 3 + 1, none⟩ = some (.int .i64 p) ∧ w'.cell? ⟨lb, lo + i * 3 + 2, none⟩ = some (.int .u64 tx)) (by kernel_rfl) (HXC.out _ (b_drew (Below.refl _ _))) (fun hHeld => ?_)
        clear x0 x1 x2
        (refine wpAnyH_take (i := 0) (v := ?_) rfl (by kernel_rfl) (by kernel_rfl) (by kernel_rfl) (fun _ _ _ h => h) (Or.inl ⟨by rfl, ?_⟩) hHeld ?_; rotate_left; (focus (intro w hSw; (try dsimp only at hSw); go_simp; try (with_reducible rfl))); (try simp only [Act.put, List.getElem_toArray, List.getElem_cons_succ, List.getElem_cons_zero, List.setIfInBounds_toArray, List.set_cons_zero, List.set_cons_succ]))
        (refine wpAnyH_take (i := 1) (v := ?_) rfl (by kernel_rfl) (by kernel_rfl) (by kernel_rfl) (fun _ _ _ h => h) (Or.inl ⟨by rfl, ?_⟩) hHeld ?_; rotate_left; (focus (intro w hSw; (try dsimp only at hSw); go_simp; try (with_reducible rfl))); (try simp only [Act.put, List.getElem_toArray, List.getElem_cons_succ, List.getElem_cons_zero, List.setIfInBounds_toArray, List.set_cons_zero, List.set_cons_succ]))
        (refine wpAnyH_take (i := 2) (v := ?_) rfl (by kernel_rfl) (by kernel_rfl) (by kernel_rfl) (fun _ _ _ h => h) (Or.inl ⟨by rfl, ?_⟩) hHeld ?_; rotate_left; (focus (intro w hSw; (try dsimp only at hSw); go_simp; try (with_reducible rfl))); (try simp only [Act.put, List.getElem_toArray, List.getElem_cons_succ, List.getElem_cons_zero, List.setIfInBounds_toArray, List.set_cons_zero, List.set_cons_succ]))
        (refine wpAnyH_take (i := 3) (v := ?_) rfl (by kernel_rfl) (by kernel_rfl) (by kernel_rfl) (fun _ _ _ h => h) (Or.inl ⟨by rfl, ?_⟩) hHeld ?_; rotate_left; (focus (intro w hSw; (try dsimp only at hSw); go_simp; try (with_reducible rfl))); (try simp only [Act.put, List.getElem_toArray, List.getElem_cons_succ, List.getElem_cons_zero, List.setIfInBounds_toArray, List.set_cons_zero, List.set_cons_succ]))
        (refine wpAnyH_take (i := 4) (v := ?_) rfl (by kernel_rfl) (by kernel_rfl) (by kernel_rfl) (fun _ _ _ h => h) (Or.inl ⟨by rfl, ?_⟩) hHeld ?_; rotate_left; (focus (intro w hSw; (try dsimp only at hSw); go_simp; try (with_reducible rfl))); (try simp only [Act.put, List.getElem_toArray, List.getElem_cons_succ, List.getElem_cons_zero, List.setIfInBounds_toArray, List.set_cons_zero, List.set_cons_succ]))
        (refine wpAnyH_take (i := 5) (v := ?_) rfl (by kernel_rfl) (by kernel_rfl) (by kernel_rfl) (fun _ _ _ h => h) (Or.inl ⟨by rfl, ?_⟩) hHeld ?_; rotate_left; (focus (intro w hSw; (try dsimp only at hSw); go_simp; try (with_reducible rfl))); (try simp only [Act.put, List.getElem_toArray, List.getElem_cons_succ, List.getElem_cons_zero, List.setIfInBounds_toArray, List.set_cons_zero, List.set_cons_succ]))
        (refine wpAnyH_take (i := 6) (v := ?_) rfl (by kernel_rfl) (by kernel_rfl) (by kernel_rfl) (fun _ _ _ h => h) (Or.inl ⟨by rfl, ?_⟩) hHeld ?_; rotate_left; (focus (intro w hSw; (try dsimp only at hSw); go_simp; try (with_reducible rfl))); (try simp only [Act.put, List.getElem_toArray, List.getElem_cons_succ, List.getElem_cons_zero, List.setIfInBounds_toArray, List.set_cons_zero, List.set_cons_succ]))
        (refine wpAnyH_take (i := 7) (v := ?_) rfl (by kernel_rfl) (by kernel_rfl) (by kernel_rfl) (fun _ _ _ h => h) (Or.inl ⟨by rfl, ?_⟩) hHeld ?_; rotate_left; (focus (intro w hSw; (try dsimp only at hSw); go_simp; try (with_reducible rfl))); (try simp only [Act.put, List.getElem_toArray, List.getElem_cons_succ, List.getElem_cons_zero, List.setIfInBounds_toArray, List.set_cons_zero, List.set_cons_succ]))
        (refine wpAnyH_take (i := 8) (v := ?_) rfl (by kernel_rfl) (by kernel_rfl) (by kernel_rfl) (fun _ _ _ h => h) (Or.inl ⟨by rfl, ?_⟩) hHeld ?_; rotate_left; (focus (intro w hSw; (try dsimp only at hSw); go_simp; try (with_reducible rfl))); (try simp only [Act.put, List.getElem_toArray, List.getElem_cons_succ, List.getElem_cons_zero, List.setIfInBounds_toArray, List.set_cons_zero, List.set_cons_succ]))
        (refine wpAnyH_take (i := 9) (v := ?_) rfl (by kernel_rfl) (by kernel_rfl) (by kernel_rfl) (fun _ _ _ h => h) (Or.inl ⟨by rfl, ?_⟩) hHeld ?_; rotate_left; (focus (intro w hSw; (try dsimp only at hSw); go_simp; try (with_reducible rfl))); (try simp only [Act.put, List.getElem_toArray, List.getElem_cons_succ, List.getElem_cons_zero, List.setIfInBounds_toArray, List.set_cons_zero, List.set_cons_succ]))
        (refine wpAnyH_take (i := 10) (v := ?_) rfl (by kernel_rfl) (by kernel_rfl) (by kernel_rfl) (fun _ _ _ h => h) (Or.inl ⟨by rfl, ?_⟩) hHeld ?_; rotate_left; (focus (intro w hSw; (try dsimp only at hSw); go_simp; try (with_reducible rfl))); (try simp only [Act.put, List.getElem_toArray, List.getElem_cons_succ, List.getElem_cons_zero, List.setIfInBounds_toArray, List.set_cons_zero, List.set_cons_succ]))
        refine wpAnyH_ready (rs := [11]) (by kernel_rfl) (by simp) (AllReadyH.cons rfl (fun K hK => ?_) AllReadyH.nil)
        go_simp
        refine (rnput_any 8 tx _ (by decide) HX.out.1 HX.out.2).mono ?_
        rintro e w7 ⟨v7, rfl, own7, hb7⟩
        have hB7 : Below wr.heap.size wr w7 := b_call (b_drew (Below.refl _ _)) hb7
        have HB7 := Lib.hid hB7
        have HO7 := Lib.hid own7
        clear own7 hb7 hB7
        refine hK.out _ _ (HXC.out _ HB7.out) (fun hHeld => ?_)
        clear hK K
        (try simp only [Act.put, List.getElem_toArray, List.getElem_cons_succ, List.getElem_cons_zero, List.setIfInBounds_toArray, List.set_cons_zero, List.set_cons_succ])
        refine wpAnyH_ready (rs := [12]) (by kernel_rfl) (by simp) (AllReadyH.cons rfl (fun K hK => ?_) AllReadyH.nil)
        go_simp
        refine (r3with_any (row_below HRr.out HB7.out) p v7 (putL 8 tx) (ownB_read HO7.out) (isBytes_putL _ _) (by rw [putL_length]; exact HPP.out)).mono ?_
        rintro e w8 ⟨g8, c8, rfl, R8, hg8, hb8⟩
        have HB8 := Lib.hid (b_call HB7.out hb8)
        have HR8 := Lib.hid R8
        clear R8 hg8 hb8
        unfold rowV
        refine hK.out _ _ (HXC.out _ HB8.out) (fun hHeld => ?_)
        clear hK K
        (try simp only [Act.put, List.getElem_toArray, List.getElem_cons_succ, List.getElem_cons_zero, List.setIfInBounds_toArray, List.set_cons_zero, List.set_cons_succ])
        (refine wpAnyH_take (i := 13) (v := ?_) rfl (by kernel_rfl) (by kernel_rfl) (by kernel_rfl) (fun _ _ _ h => h) (Or.inl ⟨by rfl, ?_⟩) hHeld ?_; rotate_left; (focus (intro w hSw; (try dsimp only at hSw); go_simp; try (with_reducible rfl))); (try simp only [Act.put, List.getElem_toArray, List.getElem_cons_succ, List.getElem_cons_zero, List.setIfInBounds_toArray, List.set_cons_zero, List.set_cons_succ]))
        refine wpAnyH_done (by kernel_rfl) ?_ _
        go_wp2_with fail
        refine ⟨⟨i + 1, by omega, by go_num, by rw [HQ3.out], g8, c8, by rw [HS2.out]; rfl, by rw [HS2.out]; exact HR8.out, b_call HBr.out HB8.out⟩, by simp only [intOf]; omega⟩
      · subst h
        have HS2 : Hid (stL L A (i + 1) = stL L A i) := by show _ = _; rw [HST.out]; rfl
        have HQ3 : Hid (toldL L A (i + 1) = toldL L A i) := HTN.out (by decide)
        go_wp2_with fail
        refine ⟨⟨i + 1, by omega, by go_num, by rw [HQ3.out], gr, cr, by rw [HS2.out]; rfl, by rw [HS2.out]; exact HRr.out, HBr.out⟩, by simp only [intOf]; omega⟩
    · have e : i = n := by omega
      subst e
      clear htl
      have HB := Lib.hid (b_call HBW6.out hbr)
      by_cases hx : x = 0
      · subst hx
        have hnA2 := done_all HDN.out
        have HA9 := are_below HA6.out hbr
        rw [if_pos rfl, ← hnA2] at HA9
        have HSM := Lib.hid (l3same_eq HA9 _ (row_read Rr))
        have hnA3 : ((i : Int) == (A.length : Int)) = true := by rw [beq_iff_eq]; omega
        have HNA2 := Lib.hid hnA2
        clear hnA2
        unfold tp rowV at HSM
        unfold rowV
        clear Rr hbr HA9
        go_wp2_with fail
        refine HSM.out.mono ?_
        rintro e w7 ⟨rfl, hb7⟩
        go_wp2_with fail
        refine (awake3_any _).mono ?_
        rintro e w8 ⟨rfl, hb8⟩
        go_wp2_with fail
        go_ret
        exact ⟨rfl, b_call (b_call HB.out hb7) hb8⟩
      · have HA9 := are_below HA6.out hbr
        rw [if_neg hx] at HA9
        have hxb : (x == 0) = false := by rw [beq_eq_false_iff_ne]; exact hx
        have HSM := Lib.hid (l3same_eq HA9 _ (row_read (row_below HRO6.out hbr)))
        unfold tp rowV at HSM
        unfold rowV
        clear Rr hbr HA9
        go_wp2_with fail
        refine HSM.out.mono ?_
        rintro e w7 ⟨rfl, hb7⟩
        go_wp2_with fail
        refine (awake3_any _).mono ?_
        rintro e w8 ⟨rfl, hb8⟩
        go_wp2_with fail
        go_ret
        exact ⟨rfl, b_call (b_call HB.out hb7) hb8⟩
end Go.Proofs.Ytgbbnmjfkhconaa
