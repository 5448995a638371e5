/- ArenaCopies, walked: whatever bytes, acts and place, the answer is true. Conditions: the bytes read as bytes, the acts as acts. -/
import Derived.Test.YtgbbnmjfkhconaaAreZ
namespace Go.Proofs.Ytgbbnmjfkhconaa
open Go.RowKit
set_option linter.unusedVariables false
set_option linter.unusedSimpArgs false
attribute [local go_sem] over_cell over_frozen
def CopZ (ob vb : Nat) (L : List Int) (n : Nat) (x : Int) (M : List Int) (w' : World) : Prop := x = 0 ∧ M = L ∧ Blk w' ob [tp vb]
theorem copone_any {w w1 : World} {b g cap ob : Nat} {L : List Int} (D : DoSt w w1 b) (H : AreAt w1 b g cap L) (hob : Blk w ob [.pointer none]) (hne : ob ≠ b ∧ ob ≠ g) : Calls Try.prog 37 #[tp (w.heap.size + 2), tp ob] w1 (FDone L b g cap (fun j => j = ob) w.heap.size w1 (CopZ ob (w.heap.size + 2) L)) := by
  have hb1 := blk_below hob D.bw
  have hlt := hob.1
  obtain ⟨c0, cf⟩ := blk1 hb1
  have hl1 := hb1.1
  have G : w1.grownBy (w1.setCell ⟨ob, 0, none⟩ (.pointer (some ⟨w.heap.size + 2, 0, none⟩))) (some ob) := gb_set (gb_refl _ _) _ _ _
  have GX := gx_gb (X := fun j => j = ob) G (fun k e => by injection e with e; exact e.symm)
  have HF : Hid (FDone L b g cap (fun j => j = ob) w.heap.size w1 (CopZ ob (w.heap.size + 2) L) (.returned (.tuple #[])) (w1.setCell ⟨ob, 0, none⟩ (.pointer (some ⟨w.heap.size + 2, 0, none⟩)))) :=
    ⟨0, 0, L, [], [], _, _, Or.inl ⟨rfl, rfl⟩, by decide, view_gx D.v GX (by omega) (fun j hj => by cases hj) (fun j hj => by cases hj), are_gx H GX (fun e => hne.1 e.symm) (fun e => hne.2 e.symm), log_nil L, by decide, gx_mono GX (fun j _ e => Or.inr (Or.inr e)), rfl, rfl, blk_set hb1 0 _⟩
  unfold tp
  clear D H hob hb1 hne G GX
  go_enter Try.func37, Try.ntmps37
  go_wp2_with fail
  exact ⟨rfl, .tuple #[], by simp [results, Try.results37, go_sem], HF.out⟩
set_option maxRecDepth 100000 in
set_option maxHeartbeats 8000000 in
theorem arenaCopies_any (u v : Value) (M0 : List Int) (A0 : List ActM) (at_ : Int) (w : World) (hu : ReadB w u M0) (hb0 : IsBytes M0) (hv : ReadR actR w v A0) (hg0 : ∀ t ∈ A0, GoodA t) :
    Calls Try.prog 6 #[u, v, .int .i64 at_] w fun e w' => e = .returned (.bool true) ∧ Below w.heap.size w w' := by
  have hmf : ∀ (fn : Fn) (first cap : Array Value) (w : World), (Instr.makeFunc fn first cap).run Try.prog w = .ok (.func fn first cap) w := fun _ _ _ _ => rfl
  obtain ⟨ua, uc, rfl⟩ := readB_len hu
  obtain ⟨va, vc, rfl, _, _⟩ := readR_len hv
  have hcp : M0.length ≤ uc ∧ uc ≤ maxLen := by obtain ⟨_, _, e, h1, h2, _⟩ := hu; cases e; exact ⟨h1, h2⟩
  have hcm := cap_le hcp.2
  have hcl : (M0.length : Int) ≤ uc := by omega
  have hcl2 : (M0.length : Int) ≤ 9223372036854775807 := by omega
  have HN := anew_any 2 w
  rw [show 256 * pagesN 2 = 512 by decide] at HN
  have HNW := Lib.hid HN
  have HU := Lib.hid hu
  have HB0 := Lib.hid hb0
  have HV := Lib.hid hv
  have HG0 := Lib.hid hg0
  clear hu hb0 hv hg0 HN hcp
  go_enter Try.func6, Try.ntmps6
  go_wp2_with fail
  refine HNW.out.mono ?_
  rintro e w1 ⟨b, g, cap, rfl, A1, hbw, hgw, hb1⟩
  have HA1 := Lib.hid A1
  have HB1 := Lib.hid hb1
  have HP : Hid (w.heap.size ≤ b ∧ w.heap.size ≤ g) := ⟨hbw, hgw⟩
  clear A1 hb1 hbw hgw
  unfold tp
  go_upto_if 24 with fail
  go_cut [0] (fun x wx => wx = w1 ∧ ∃ (M : List Int) (a : Option Addr) (c : Nat), x = .slice a M.length c ∧ M.length ≤ 256 ∧ ReadB w (.slice a M.length c) M ∧ IsBytes M)
  case first =>
    rcases (show 256 < (M0.length : Int) ∨ (M0.length : Int) ≤ 256 by omega) with q | q
    · have q2 : (256 : Int) ≤ uc := by omega
      have HM : Hid (ReadB w (.slice ua 256 uc) (M0.take 256) ∧ (M0.take 256).length = 256) := ⟨readB_take HU.out (by omega), by rw [List.length_take]; omega⟩
      go_wp2_with fail
      go_meet
      case rel => exact ⟨rfl, M0.take 256, ua, uc, by rw [HM.out.2], by rw [HM.out.2]; exact Nat.le_refl _, by rw [HM.out.2]; exact HM.out.1, isBytes_take HB0.out 256⟩
    · go_wp2_with fail
      go_meet
      case rel => exact ⟨rfl, M0, ua, uc, rfl, by omega, HU.out, HB0.out⟩
  case rest =>
  obtain ⟨rfl, M, ma, mc, rfl, hM, hMr, hMb⟩ := hcut
  obtain ⟨L, hL⟩ : ∃ L, L = lay (List.replicate 512 (0 : Int)) 9 M := ⟨_, rfl⟩
  have hLn : L.length = 512 := by rw [hL, lay_length (by rw [List.length_replicate]; omega), List.length_replicate]
  have hst := astore_any HA1.out 9 (.slice ma M.length mc) M (readB_below hMr HB1.out) hMb
  have e0 : inE (List.replicate 512 (0 : Int)).length 9 M.length = 0 := by
    rw [List.length_replicate]; exact inE_ok (k := 9) (m := M.length) (by omega)
  have e1 : storeL (List.replicate 512 0) 9 M = L := by unfold storeL; rw [if_pos e0, hL]; rfl
  rw [e0, e1] at hst
  have HST := Lib.hid hst
  have HLN := Lib.hid hLn
  have HMR := Lib.hid hMr
  have hM1 : (M.length : Int) ≤ 256 := by omega
  clear hst e0 e1 hL hLn hM hMr hMb
  unfold tp at HST
  go_wp2_with fail
  refine HST.out.mono ?_
  rintro e w2 ⟨rfl, A2, G2⟩
  have hB2 : Below w.heap.size w w2 := b_grown HB1.out G2 HP.out.2
  have hld := aload_any A2 0 512
  have e2 : inE L.length 0 512 = 0 := by rw [HLN.out]; exact inE_ok (k := 0) (m := 512) (by omega)
  have e3 : loadL L 0 512 = L := by have := loadL_all L; rw [HLN.out] at this; exact this
  rw [e2, e3] at hld
  have HLD := Lib.hid hld
  have HA2 := Lib.hid A2
  have HB2 := Lib.hid hB2
  clear hld e2 e3 A2 G2 hB2
  unfold tp at HLD
  go_wp2_with fail
  refine HLD.out.mono ?_
  rintro e w3 ⟨ov, rfl, _, hb3, h3⟩
  obtain ⟨go, co, rfl, R3, hgo⟩ := h3 trivial
  have HA3 := Lib.hid (are_below HA2.out hb3)
  have HB3 := Lib.hid (b_call HB2.out hb3)
  have HR3 := Lib.hid R3
  have HCP := Lib.hid (acopy_any HA3.out)
  have HGO : Hid (g < go) := by show g < go; have := HA2.out.rw.1; omega
  clear R3 hgo hb3 h3
  unfold rowV tp at *
  go_wp2_with fail
  refine HCP.out.mono ?_
  rintro e w4 ⟨bc, gc, cc, rfl, C4, hbc, hgc, hb4⟩
  have HA4 := Lib.hid (are_below HA3.out hb4)
  have HC4 := Lib.hid C4
  have HB4 := Lib.hid (b_call HB3.out hb4)
  have HR4 := Lib.hid (row_below HR3.out hb4)
  have HX : Hid (w3.heap.size ≤ bc ∧ w3.heap.size ≤ gc ∧ b < w3.heap.size ∧ g < w3.heap.size ∧ go < w3.heap.size) := ⟨hbc, hgc, HA3.out.hd.1, HA3.out.rw.1, HR3.out.rw.1⟩
  have HRT := Lib.hid (l3right_any _ A0 (readR_below HV.out HB4.out))
  clear C4 hbc hgc hb4
  unfold tp
  go_wp2_with fail
  refine HRT.out.mono ?_
  rintro e w5 ⟨lv, rfl, own5, hb5⟩
  obtain ⟨A, hA⟩ : ∃ A, A = rightL A0 A0.length := ⟨_, rfl⟩
  rw [← hA] at own5
  have hA12 : A.length ≤ 12 := by rw [hA]; exact rightL_len _ _
  have hAg : ∀ t ∈ A, GoodA t ∧ KindA t := fun t ht => by
    rw [hA] at ht
    obtain ⟨m1, m2⟩ := rightL_mem A0 A0.length t ht
    exact ⟨HG0.out t m1, m2⟩
  have HB5 := Lib.hid (b_call HB4.out hb5)
  have HA5 := Lib.hid (are_below HA4.out hb5)
  have HC5 := Lib.hid (are_below HC4.out hb5)
  have HR5 := Lib.hid (row_below HR4.out hb5)
  have hown := ownR_lt own5
  have HDO := Lib.hid (l3do_any HC5.out (ownR_read own5) hA12 hAg (fun j hj => by
    obtain ⟨z1, z2⟩ := hown j hj
    have := HC4.out.rw.1
    exact ⟨z2, by omega⟩))
  obtain ⟨la, lc, rfl, hlc, _⟩ := readR_len (ownR_read own5)
  clear own5 hb5 hown hA hA12 hAg
  unfold tp at HDO
  go_wp2_with fail
  refine HDO.out.mono ?_
  rintro e w6 ⟨n, x, tv, rfl, hdn, C6, told6, hto, G6⟩
  obtain ⟨N6, hN6, hN6l⟩ : ∃ N6, AreAt w6 bc gc cc N6 ∧ N6.length = 512 := ⟨_, C6, by split; (rw [stL_length]; exact HLN.out); (exact HLN.out)⟩
  have HA6 := Lib.hid (are_gx HA5.out G6 (by have := HX.out; omega) (by have := HX.out; omega))
  have HR6 : Hid (RowAt w6 go co L) := ⟨blk_gx HR5.out.rw G6 (by have := HX.out; omega), HR5.out.le, HR5.out.cp, HR5.out.by_, HR5.out.mx⟩
  have HB6 : Hid (Below w.heap.size w w6) := b_gx HB5.out G6 (fun j e => by rw [e]; have := HX.out; have := HP.out; have := HB3.out.size; omega)
  have HFL := Lib.hid (afill_any hN6 0 512 7 (by decide))
  obtain ⟨ta, tc, rfl, htc, _⟩ := readR_len told6
  clear hdn C6 told6 hto G6 hN6 hN6l htc
  unfold tp at HFL
  go_wp2_with fail
  refine HFL.out.mono ?_
  rintro e w7 ⟨rfl, C7, G7⟩
  have GX7 := gx_gb (X := fun j => j = gc) G7 (fun k e => by injection e with e; exact e.symm)
  have A7 := are_gx HA6.out GX7 (by have := HX.out; omega) (by have := HX.out; omega)
  have R7 : RowAt w7 go co L := ⟨blk_gx HR6.out.rw GX7 (by have := HX.out; omega), HR6.out.le, HR6.out.cp, HR6.out.by_, HR6.out.mx⟩
  have B7 : Below w.heap.size w w7 := b_gx HB6.out GX7 (fun j e => by rw [e]; have := HX.out; have := HB3.out.size; omega)
  obtain ⟨w8, hw8⟩ : ∃ w8, w8 = w7.alloc (.cells #[.pointer none] 64) := ⟨_, rfl⟩
  have b8 : Below w7.heap.size w7 w8 := by rw [hw8]; exact b_alloc (Below.refl _ _) _
  have O8 : Blk w8 w7.heap.size [.pointer none] := by rw [hw8]; exact blk_new _ #[.pointer none] _
  have A8 := are_below A7 b8
  have l8 := A7.hd.1
  have l8' := A7.rw.1
  have HD8 := Lib.hid (ado1 A8 37 (tp w7.heap.size) (fun j => j = w7.heap.size) (fun args w => by kernel_rfl) (fun j e => by subst e; exact ⟨O8.1, by omega, by omega⟩) (CopZ w7.heap.size (w8.heap.size + 2) L) (fun w9 D A9 => copone_any D A9 O8 ⟨by omega, by omega⟩))
  have HW8 := Lib.hid hw8
  have HR8 := Lib.hid (row_below R7 b8)
  have HB8 := Lib.hid (b_call B7 b8)
  have HL8 : Hid (b < w7.heap.size ∧ g < w7.heap.size ∧ go < w7.heap.size ∧ w7.heap.size < w8.heap.size ∧ w.heap.size ≤ w7.heap.size) := ⟨l8, l8', R7.rw.1, O8.1, B7.size⟩
  clear C7 G7 GX7 A7 R7 B7 b8 O8 A8 l8 l8' hw8
  unfold tp at HD8
  go_wp2_with fail
  rw [← HW8.out]
  refine HD8.out.mono ?_
  rintro e w9 ⟨n9, x9, M9, w', rfl, A9, G9, G9', hs9, ⟨u1, u2, u3, V9⟩, rfl, rfl, O9⟩
  rw [if_pos rfl] at A9
  have OB9 := blk_gx O9 G9' (by have := HL8.out; omega)
  have R9 : RowAt w9 go co M9 := ⟨blk_gx HR8.out.rw G9 (by have := HL8.out; have := HGO.out; show ¬ (go = g ∨ go = w7.heap.size); omega), HR8.out.le, HR8.out.cp, HR8.out.by_, HR8.out.mx⟩
  have B9 : Below w.heap.size w w9 := b_gx HB8.out G9 (fun j e => by have := HP.out; have := HL8.out; rcases e with e | e; (omega); (have e : j = w7.heap.size := e; omega))
  have HSO := Lib.hid (vset_out V9 0 1)
  have HNO := Lib.hid (vneed_out V9 false)
  have HGE := Lib.hid (vget_out V9 0)
  have HDN := Lib.hid (ado_none (w := w9) (b := b))
  have HA9 := Lib.hid A9
  have HR9 := Lib.hid R9
  have HB9 := Lib.hid B9
  have HV9 := Lib.hid V9
  have HOB9 := Lib.hid OB9
  obtain ⟨o0, of⟩ := blk1 OB9
  clear A9 R9 B9 V9 OB9 G9 G9' O9 hs9
  unfold tp at HSO HNO HGE HDN o0
  go_wp2_with fail
  refine HSO.out.mono ?_
  rintro e w10 ⟨rfl, rfl⟩
  go_wp2_with fail
  refine HNO.out.mono ?_
  rintro e w10 ⟨rfl, rfl⟩
  go_wp2_with fail
  refine (aload_nil _ _ _).mono ?_
  rintro e w10 ⟨rfl, rfl⟩
  go_wp2_with fail
  refine (aword_nil _ _).mono ?_
  rintro e w10 ⟨rfl, rfl⟩
  go_wp2_with fail
  refine (ado_nil _ _ ⟨_, _, _, rfl⟩).mono ?_
  rintro e w10 ⟨rfl, hb10⟩
  have HA10 := Lib.hid (are_below HA9.out hb10)
  have HR10 := Lib.hid (row_below HR9.out hb10)
  have HB10 := Lib.hid (b_call HB9.out hb10)
  have HV10 := Lib.hid (blk_below HV9.out hb10)
  have HOB10 := Lib.hid (blk_below HOB9.out hb10)
  clear hb10 o0 of
  go_wp2_with fail
  refine (ado_none (w := w10) (b := b)).mono ?_
  rintro e w11 ⟨rfl, hb11⟩
  have HA11 := Lib.hid (are_below HA10.out hb11)
  have HR11 := Lib.hid (row_below HR10.out hb11)
  have HB11 := Lib.hid (b_call HB10.out hb11)
  have HV11 := Lib.hid (blk_below HV10.out hb11)
  have HOB11 := Lib.hid (blk_below HOB10.out hb11)
  have HSM := Lib.hid (l3same_eq HA11.out _ (row_read HR11.out))
  clear hb11
  unfold tp rowV at HSM
  go_wp2_with fail
  refine HSM.out.mono ?_
  rintro e w12 ⟨rfl, hb12⟩
  have HGE12 := Lib.hid (vget_out (blk_below HV11.out hb12) 0)
  have HB12 := Lib.hid (b_call HB11.out hb12)
  obtain ⟨o0, of⟩ := blk1 (blk_below HOB11.out hb12)
  have HMR12 := Lib.hid (readB_below HMR.out HB12.out)
  clear hb12
  unfold tp at HGE12 o0
  go_wp2_with fail
  refine HGE12.out.mono ?_
  rintro e w13 ⟨rfl, rfl⟩
  go_wp2_with fail
  refine (alen_nil _).mono ?_
  rintro e w13 ⟨rfl, rfl⟩
  go_wp2_with fail
  refine (astore_nil _ _ M _ HMR12.out).mono ?_
  rintro e w13 ⟨rfl, rfl⟩
  go_wp2_with fail
  refine (afill_nil _ _ _ _).mono ?_
  rintro e w13 ⟨rfl, rfl⟩
  go_wp2_with fail
  refine (asetw_nil _ _ _).mono ?_
  rintro e w13 ⟨rfl, rfl⟩
  go_wp2_with fail
  refine (acopy_nil _).mono ?_
  rintro e w13 ⟨rfl, rfl⟩
  go_wp2_with fail
  refine (awake3_any _).mono ?_
  rintro e w14 ⟨rfl, hb14⟩
  go_wp2_with fail
  go_ret
  exact ⟨rfl, b_call HB12.out hb14⟩
end Go.Proofs.Ytgbbnmjfkhconaa
