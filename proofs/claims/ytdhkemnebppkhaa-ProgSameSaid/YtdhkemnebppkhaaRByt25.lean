/- Layer 25: the document's bytes of a program that may be. Conditions: the program reads as lists, may be, and its numbers are of their kinds. -/
import Derived.Test.YtdhkemnebppkhaaList25
namespace Go.Proofs.Ytdhkemnebppkhaa
open Go.RowKit
set_option linter.unusedVariables false
set_option linter.unusedSimpArgs false
attribute [local go_sem] over_cell over_frozen
def RFUNT : TypeId := 83
theorem mayI_bd {op x a b : Int} (h : mayI ⟨op, x, a, b⟩ = true) : (0 ≤ a ∧ a ≤ 65535) ∧ (0 ≤ b ∧ b ≤ 65535) := may_arg h
set_option maxRecDepth 100000 in
set_option maxHeartbeats 4000000 in
theorem rbytes25_any (p : PrV) (P : PrM) (w : World) (h : ReadP w p P) (hm : mayP P = true) (hgd : GoodP P) : Calls Try.prog 33 #[aggP p] w (RetOwnB w (bytP P)) := by
  have ok := okP_of hm
  obtain ⟨u, ⟨ga, gn, gc⟩, m, ⟨fa, fn, fc⟩⟩ := p
  obtain ⟨pu, gl, pm, fs⟩ := P
  obtain ⟨hu, hg, hmm, L, hL, hA⟩ := h
  simp only at hu hmm
  subst hu; subst hmm
  have hL : ReadR fnE w (.slice fa fn fc) L := hL
  obtain ⟨hf1, hf2, hf3⟩ := slr_cap hL
  subst hf3
  have hfm := cap_le hf2
  have hg : ReadI w (.slice ga gn gc) gl := hg
  obtain ⟨hg1, hg2, hg3⟩ := sli_cap hg
  subst hg3
  have HG := Lib.hid hg
  have HL := Lib.hid hL
  have HA := Lib.hid hA
  have HFL := Lib.hid (allF_len hA)
  have OK := Lib.hid ok
  have GD := Lib.hid hgd
  clear hg hL hA ok hgd hm hf2 hg2
  unfold aggP Sl.v
  simp only
  go_enter Try.func33, Try.ntmps33
  go_upto_region 1 with fail
  refine wp_named ?_
  intro W hW
  have hWs : W.heap.size = w.heap.size + 1 := by rw [hW]; simp
  have hbW : Below w.heap.size w W := by rw [hW]; exact b_alloc (Below.refl _ _) _
  have BW : Blk W w.heap.size [.bool u, .slice ga gl.length gc, .int .i64 m, .slice fa L.length fc] := by rw [hW]; exact blk_new _ _ _
  have HWS := Lib.hid hWs
  have hlt : w.heap.size < W.heap.size := by omega
  have HGW := Lib.hid (readI_below HG.out hbW)
  have HLW := Lib.hid (readR_below HL.out hbW)
  have HAW := Lib.hid (allF_below hbW HA.out)
  have HBW := Lib.hid hbW
  have BWH := Lib.hid BW
  obtain ⟨c0, c1, c2, c3, cf⟩ := blk4 BW
  have own2 : OwnB (W.alloc (.cells #[.int .u8 84, .int .u8 77, .int .u8 66, .int .u8 49, .int .u8 0] BYTT)) W.heap.size (.slice (some ⟨W.heap.size, 0, none⟩) 5 5) (headP false) := ownB_lits (headP false) _ rfl 5 rfl (by unfold maxLen; decide) (Nat.le_refl _)
  have HO2 := Lib.hid own2
  clear hW hWs hbW BW own2
  go_upto_if 10 with fail
  go_cut [3] (fun v wx => OwnB wx W.heap.size v (headP u) ∧ Below W.heap.size W wx)
  case first =>
    cases u
    · go_wp2_with fail
      go_meet
      case rel => exact ⟨HO2.out, b_alloc (Below.refl _ _) _⟩
    · go_wp2_with fail
      go_meet
      case rel => exact ⟨ownB_lits (headP true) _ rfl 5 rfl (by unfold maxLen; decide) (Nat.le_refl _), b_alloc (Below.refl _ _) _⟩
  case rest =>
    obtain ⟨own3, hb3⟩ := hcut
    have BX3 := blk_below BWH.out hb3
    clear c0 c1 c2 c3 cf
    obtain ⟨c0, c1, c2, c3, cf⟩ := blk4 BX3
    go_wp2_with fail
    refine (rlist_any _ _ gl (readI_below HGW.out hb3) (by have : gl.length ≤ 8 := OK.out.g; omega)).mono ?_
    rintro e w4 ⟨v4, rfl, own4, hb4⟩
    have own3b := ownB_below own3 hb4
    have hb34 := b_call hb3 hb4
    have HGL : Hid (gl.length ≤ 8) := OK.out.g
    have hhl : (headP u).length = 5 := rfl
    have HHL := Lib.hid hhl
    have hw34 := hb34.size
    clear hhl
    go_upto_region 5 with (at_builtin; (refine appendB rfl _ _ rfl W.heap.size _ _ rfl own3b _ (lstB gl) rfl (ownB_read own4) ?c1 ?c2 ?_); (case c1 => (have := HGL.out; have := HHL.out; rw [lstB_length]; omega)); (case c2 => exact hw34); intro v5 w5 own5 hg5; have hb5 := b_ownB hb34 own3b hg5; clear hg5)
    have BX5 := blk_below BWH.out hb5
    have HX5 : Hid ((headP u ++ lstB gl).length ≤ 14) := by show _ ≤ _; have := HGL.out; have := HHL.out; rw [List.length_append, lstB_length]; omega
    have hw5 := hb5.size
    clear c0 c1 c2 c3 cf own3 own3b own4 hb3 hb4 hb34
    obtain ⟨c0, c1, c2, c3, cf⟩ := blk4 BX5
    go_upto_region 6 with (at_builtin; (refine appendB rfl _ _ rfl W.heap.size _ _ rfl (ownB_alloc own5 _) _ [m % 256, (L.length : Int) % 256] rfl (read_twoB _ _ _) ?c3 ?c4 ?_); (case c3 => (have := HX5.out; simp only [List.length_cons, List.length_nil]; omega)); (case c4 => (simp only [World.size_alloc]; omega)); intro v6 w6 own6 hg6; have hb6 := b_ownB (b_alloc hb5 _) (ownB_alloc own5 _) hg6; clear hg6)
    have BX6 := blk_below BWH.out hb6
    have HO6 := Lib.hid own6
    have HB6 := Lib.hid hb6
    have hw6 := hb6.size
    clear c0 c1 c2 c3 cf own5 hb5 BX5 own6 hb6
    obtain ⟨c0, c1, c2, c3, cf⟩ := blk4 BX6
    clear BX6
    obtain ⟨HD, hHD⟩ : ∃ HD, HD = headP u ++ lstB gl ++ [m % 256, (L.length : Int) % 256] := ⟨_, rfl⟩
    rw [← hHD] at HO6
    have HHD : Hid (HD = headP u ++ lstB gl ++ [m % 256, (L.length : Int) % 256] ∧ HD.length ≤ 16) := ⟨hHD, by have := HX5.out; rw [hHD, List.length_append]; simp only [List.length_cons, List.length_nil]; omega⟩
    clear hHD HX5
    go_wp2_with fail
    go_loopw [3, 31] (fun v i wr => ∃ k : Nat, k ≤ L.length ∧ i = .int .i64 k ∧ Hid (OwnB wr W.heap.size v (HD ++ (fs.take k).flatMap bytF)) ∧ Hid (Below W.heap.size W wr)) (fun _ i _ => L.length - (intOf i).toNat)
    case atStart => exact ⟨0, Nat.zero_le _, rfl, by have e := HO6.out; show OwnB _ _ _ (HD ++ []); rw [List.append_nil]; exact e, HB6.out⟩
    case round =>
      obtain ⟨k, hk, rfl, ho, hb⟩ := hrel
      have k0 : (0 : Int) ≤ k := by omega
      by_cases hlt2 : k < L.length
      · obtain ⟨bl, off, cp, e1, r1, r2, hbl, r4⟩ := readR_pos HLW.out (by omega)
        cases e1
        have k1 : (k : Int) < L.length := by omega
        have hc := fn_cells r4 k hlt2
        rw [← (bcell hb.out).1 _ _ hbl, ← (bcell hb.out).1 _ _ hbl, ← (bcell hb.out).1 _ _ hbl, ← (bcell hb.out).1 _ _ hbl] at hc
        have kf : k < fs.length := by rw [← HFL.out]; exact hlt2
        have DF := Lib.hid (allF_at HAW.out k hlt2 kf)
        have OF := Lib.hid (OK.out.f _ (List.getElem_mem kf))
        have GF := Lib.hid (GD.out _ (List.getElem_mem kf))
        have HN := Lib.hid (flat_snoc (f := bytF) kf)
        have HLN : Hid (((fs.take k).flatMap bytF).length ≤ 20288) := fs_len k OK.out.f2 OK.out.f
        generalize fs[k] = f at *
        generalize L[k] = x at *
        obtain ⟨⟨pa, pn, pc⟩, ⟨la, ln, lc⟩, r, ⟨ca, cn, cc⟩⟩ := x
        obtain ⟨ps, ls, r', code⟩ := f
        simp only at hc
        obtain ⟨d0, d1, d2, d3⟩ := hc
        have er : r = r' := DF.out.r
        subst er
        have dc : ReadR inE W (.slice ca cn cc) code := DF.out.c
        obtain ⟨hc1, hc2, hc3⟩ := slr_cap dc
        subst hc3
        have hcm := cap_le hc2
        have DP : ReadI W (.slice pa pn pc) ps := DF.out.p
        have DL : ReadI W (.slice la ln lc) ls := DF.out.l
        have DC := Lib.hid dc
        clear r4 dc hc2 c0 c1 c2 c3 cf
        have HLE : Hid ((HD ++ (fs.take k).flatMap bytF).length ≤ 20304) := by show _ ≤ _; have := HHD.out.2; have := HLN.out; rw [List.length_append]; omega
        obtain ⟨X, hX⟩ : ∃ X, X = HD ++ (fs.take k).flatMap bytF := ⟨_, rfl⟩
        rw [← hX] at HLE ho
        have HX := Lib.hid hX
        clear hX
        go_upto_region 9 with fail
        refine wp_named ?_
        intro wf hwf
        have BF : Blk wf wr.heap.size [.slice pa pn pc, .slice la ln lc, .int .i64 r, .slice ca code.length cc] := by rw [hwf]; exact blk_new _ _ _
        have TF : tyB wf wr.heap.size = some RFUNT := by rw [hwf]; exact tyB_new _ _ _
        have ownf : OwnB wf W.heap.size u3 X := by rw [hwf]; exact ownB_alloc ho.out _
        have hbf : Below W.heap.size W wf := by rw [hwf]; exact b_alloc hb.out _
        clear hwf d0 d1 d2 d3
        have HBF := Lib.hid BF
        obtain ⟨d0, d1, d2, d3, df⟩ := blk4 BF
        go_wp2_with fail
        refine (rlist_any _ _ ps (readI_below DP hbf) (by have : ps.length ≤ 8 := OF.out.p; omega)).mono ?_
        rintro e w7 ⟨v7, rfl, own7, hb7⟩
        have ownf7 := ownB_below ownf hb7
        have hbf7 := b_call hbf hb7
        have KF7 := keepB_below hb7
        have hw7 := hbf7.size
        go_upto_region 10 with (at_builtin; (refine appendB rfl _ _ rfl W.heap.size _ _ rfl ownf7 _ (lstB ps) rfl (ownB_read own7) ?c5 ?c6 ?_); (case c5 => (have := HLE.out; have : ps.length ≤ 8 := OF.out.p; rw [lstB_length]; omega)); (case c6 => exact hw7); intro v8 w8 own8 hg8; have hb8 := b_ownB hbf7 ownf7 hg8; have KF8 := keepB_trans KF7 (keepB_own ownf7 hg8); clear hg8)
        have HLE8 : Hid ((X ++ lstB ps).length ≤ 20320) := by show _ ≤ _; have := HLE.out; have : ps.length ≤ 8 := OF.out.p; rw [List.length_append, lstB_length]; omega
        clear ownf ownf7 hbf7 KF7 own7 hb7 d0 d1 d2 d3 df BF
        have BF8 := keepB_blk HBF.out TF (by decide) KF8
        obtain ⟨d0, d1, d2, d3, df⟩ := blk4 BF8
        go_wp2_with fail
        refine (rlist_any _ _ ls (readI_below DL hb8) (by have : ls.length ≤ 8 := OF.out.l; omega)).mono ?_
        rintro e w9 ⟨v9, rfl, own9, hb9⟩
        have own89 := ownB_below own8 hb9
        have hb89 := b_call hb8 hb9
        have KF9 := keepB_trans KF8 (keepB_below hb9)
        have hw9 := hb89.size
        go_upto_region 11 with (at_builtin; (refine appendB rfl _ _ rfl W.heap.size _ _ rfl own89 _ (lstB ls) rfl (ownB_read own9) ?c7 ?c8 ?_); (case c7 => (have := HLE8.out; have : ls.length ≤ 8 := OF.out.l; rw [lstB_length]; omega)); (case c8 => exact hw9); intro v10 w10 own10 hg10; have hb10 := b_ownB hb89 own89 hg10; have KF10 := keepB_trans KF9 (keepB_own own89 hg10); clear hg10)
        have HLE10 : Hid ((X ++ lstB ps ++ lstB ls).length ≤ 20330) := by show _ ≤ _; have := HLE8.out; have : ls.length ≤ 8 := OF.out.l; rw [List.length_append, lstB_length]; omega
        clear own8 own89 hb89 KF9 own9 hb9 d0 d1 d2 d3 df BF8 hb8 KF8
        have BF10 := keepB_blk HBF.out TF (by decide) KF10
        obtain ⟨d0, d1, d2, d3, df⟩ := blk4 BF10
        have hw10 := hb10.size
        go_upto_region 12 with (at_builtin; (refine appendB rfl _ _ rfl W.heap.size _ _ rfl (ownB_alloc own10 _) _ [r % 256, (code.length : Int) % 256] rfl (read_twoB _ _ _) ?c9 ?c10 ?_); (case c9 => (have := HLE10.out; simp only [List.length_cons, List.length_nil]; omega)); (case c10 => (simp only [World.size_alloc]; omega)); intro v11 w11 own11 hg11; have hb11 := b_ownB (b_alloc hb10 _) (ownB_alloc own10 _) hg11; have KF11 := keepB_trans (keepB_alloc KF10 _) (keepB_own (ownB_alloc own10 _) hg11); clear hg11)
        obtain ⟨Y, hY⟩ : ∃ Y, Y = X ++ lstB ps ++ lstB ls ++ [r % 256, (code.length : Int) % 256] := ⟨_, rfl⟩
        rw [← hY] at own11
        have HY : Hid (Y = X ++ lstB ps ++ lstB ls ++ [r % 256, (code.length : Int) % 256] ∧ Y.length ≤ 20332) := ⟨hY, by have := HLE10.out; rw [hY, List.length_append]; simp only [List.length_cons, List.length_nil]; omega⟩
        have BF11 := keepB_blk HBF.out TF (by decide) KF11
        clear hY own10 hb10 KF10 d0 d1 d2 d3 df BF10
        obtain ⟨d0, d1, d2, d3, df⟩ := blk4 BF11
        have HO11 := Lib.hid own11
        have HB11 := Lib.hid hb11
        have HKF := Lib.hid KF11
        clear own11 hb11 KF11 BF11 ho hb
        obtain ⟨W1, hW1⟩ : ∃ W1, W1 = wr := ⟨_, rfl⟩
        subst hW1
        go_wp2_with fail
        go_loopw [3, 58] (fun v i wz => ∃ j : Nat, j ≤ code.length ∧ i = .int .i64 j ∧ Hid (OwnB wz W.heap.size v (Y ++ (code.take j).flatMap bytIn)) ∧ Hid (Below W.heap.size W wz)) (fun _ i _ => code.length - (intOf i).toNat)
        case atStart => exact ⟨0, Nat.zero_le _, rfl, by have e := HO11.out; show OwnB _ _ _ (Y ++ []); rw [List.append_nil]; exact e, HB11.out⟩
        case round =>
          obtain ⟨j, hj, rfl, ho, hb⟩ := hrel
          have j0 : (0 : Int) ≤ j := by omega
          by_cases hlt3 : j < code.length
          · obtain ⟨bl2, off2, cp2, e1, r12, r22, hbl2, r42⟩ := readR_pos DC.out (by omega)
            cases e1
            have j1 : (j : Int) < code.length := by omega
            have hcs := in_cells r42 j hlt3
            rw [← (bcell hb.out).1 _ _ hbl2, ← (bcell hb.out).1 _ _ hbl2, ← (bcell hb.out).1 _ _ hbl2, ← (bcell hb.out).1 _ _ hbl2] at hcs
            have HNJ := Lib.hid (flat_snoc (f := bytIn) hlt3)
            have HLJ := Lib.hid (code_len j OF.out.c2)
            have HM := Lib.hid (OF.out.i _ (List.getElem_mem hlt3))
            have HG := Lib.hid (GF.out _ (List.getElem_mem hlt3))
            have HL13 := Lib.hid (bytIn_le code[j])
            generalize code[j] = ii at *
            obtain ⟨iop, ix, ia, ib⟩ := ii
            simp only at hcs
            obtain ⟨i0, i1, i2, i3⟩ := hcs
            clear r42 d0 d1 d2 d3 df
            go_wp2_with fail
            refine (rbytes_any iop ix ia ib _ HG.out.1 HG.out.2 (mayI_bd HM.out).1 (mayI_bd HM.out).2).mono ?_
            rintro e w12 ⟨v12, rfl, own12, hb12⟩
            have own13 := ownB_below (ownB_alloc ho.out (.cells #[.int .i64 iop, .int .u64 ix, .int .i64 ia, .int .i64 ib] 24)) hb12
            have hb13 := b_call (b_alloc hb.out _) hb12
            have hw13 := hb13.size
            go_wp2_with (at_builtin; (refine appendB rfl _ _ rfl W.heap.size _ _ rfl own13 _ (bytIn ⟨iop, ix, ia, ib⟩) rfl (ownB_read own12) ?c11 ?c12 ?_); (case c11 => (have := HY.out.2; have := HLJ.out; have := HL13.out; rw [List.length_append]; omega)); (case c12 => exact hw13); intro v14 w14 own14 hg14; have hb14 := b_ownB hb13 own13 hg14; clear hg14)
            have HO14 := Lib.hid own14
            have HB14 := Lib.hid hb14
            clear own12 hb12 own13 hb13 own14 hb14
            go_roundw
            case rel => exact ⟨j + 1, by omega, by first | rfl | trivial | go_num, by rw [HNJ.out, ← List.append_assoc]; exact HO14.out, HB14.out⟩
            case measure => simp [intOf]; omega
          · have hall : (code.take j).flatMap bytIn = code.flatMap bytIn := by rw [List.take_of_length_le (by omega)]
            have HALL := Lib.hid hall
            clear hall
            go_wp2_with fail
            go_roundw
            case rel => exact ⟨k + 1, by omega, by first | rfl | trivial | go_num, by
              have e := ho.out
              rw [HALL.out, HY.out.1, HX.out] at e
              have eb : bytF ⟨ps, ls, r, code⟩ = lstB ps ++ lstB ls ++ [r % 256, (code.length : Int) % 256] ++ code.flatMap bytIn := rfl
              show OwnB _ _ _ _
              rw [HN.out, eb]
              simp only [← List.append_assoc]
              exact e, hb.out⟩
            case measure => simp [intOf]; omega
      · have hall : (fs.take k).flatMap bytF = fs.flatMap bytF := by rw [List.take_of_length_le (by have := HFL.out; omega)]
        have HALL := Lib.hid hall
        clear hall
        go_wp2_with fail
        go_ret
        exact ⟨_, rfl, ownB_mono (by
          have e := ho.out
          rw [HALL.out, HHD.out.1] at e
          have eb : bytP ⟨u, gl, m, fs⟩ = headP u ++ lstB gl ++ [m % 256, (L.length : Int) % 256] ++ fs.flatMap bytF := by unfold bytP; rw [HFL.out]
          rw [eb]; exact e) (by have := HWS.out; omega), by
          have e := hb.out
          rw [HWS.out] at e
          exact HBW.out.trans (hb.out.mono (by have := HWS.out; omega))⟩
end Go.Proofs.Ytdhkemnebppkhaa
