/- Layer 25: numbers as bytes, one by one: ours and the document's. Conditions: the list reads as such. Layer 25: the document's bytes of a program that may be. Conditions: the program reads as lists, may be, and its numbers are of their kinds. InstrBytes, walked: whatever the instruction and the bytes behind it, the answer is true. Conditions: the numbers are of their kinds; the slice reads as bytes. Layer 25: the document's Same, of two programs that are the same and may be. Conditions: they read as that program. -/
import Derived.Test.YtedmjlhgpdeafaaDoorQBytM
import Derived.Test.YtedmjlhgpdeafaaDoorQInstrBytesLaw
namespace Go.Proofs.YtedmjlhgpdeafaaDoor
section
open Go.RowKit
set_option linter.unusedVariables false
set_option linter.unusedSimpArgs false
set_option maxHeartbeats 1000000 in
theorem rlist_any (w : World) (u : Value) (l : List Int) (h : ReadI w u l) (hx : l.length + 2 ≤ 1099511627776) :
    Calls Tryd.prog 70 #[u] w (RetOwnB w (lstB l)) := by
  obtain ⟨a, cap, rfl⟩ := readI_len h
  have hl : (l.length : Int) ≤ 9223372036854775807 := by
    obtain ⟨_, _, e, h1, h2, _⟩ := h; have := cap_le h2; omega
  have H := Lib.hid h
  have HX := Lib.hid hx
  clear h hx
  go_enter Tryd.func70, Tryd.ntmps70
  go_wp2_with fail
  go_loopw [3, 12] (fun v i wr => ∃ k : Nat, k ≤ l.length ∧ i = .int .i64 k ∧ Hid (OwnB wr w.heap.size v (lstK l k)) ∧ Hid (Below w.heap.size w wr)) (fun _ i _ => l.length - (intOf i).toNat)
  case atStart => exact ⟨0, Nat.zero_le _, rfl, by rw [lstK_zero]; exact ownB_lit _ (Nat.le_refl _), b_alloc (Below.refl _ _) _⟩
  case round =>
    obtain ⟨k, hk, rfl, ho, hb⟩ := hrel
    have k0 : (0 : Int) ≤ k := by omega
    by_cases hlt : k < l.length
    · obtain ⟨bl, off, cp, e1, r1, r2, hbl, r4⟩ := readI_pos H.out (by omega)
      cases e1
      have k1 : (k : Int) < l.length := by omega
      have hc : wr.cell? ⟨bl, off + k, none⟩ = some (.int .i64 (l.getD k 0)) := (hb.out.cell (p := ⟨bl, off + k, none⟩) hbl).trans (r4 k hlt)
      have HL := Lib.hid (lstK_succ hlt)
      have hll := lstK_len l k
      have hs2 := hb.out.size
      generalize l.getD k 0 = x at *
      clear r4
      have HOA := Lib.hid (ownB_alloc ho.out (.cells #[.int .u8 (x % 256)] BYTT))
      have HLL := Lib.hid (show (lstK l k).length + 1 ≤ 1099511627776 by have := HX.out; omega)
      clear hll
      go_wp2_with (at_builtin; (refine appendB rfl _ _ rfl w.heap.size _ _ rfl HOA.out _ [x % 256] rfl (read_oneB _ _) ?c3 ?c4 ?_); (case c3 => exact HLL.out); (case c4 => (simp only [World.size_alloc]; omega)); intro v2 w2 own2 hg2; have hb2 := b_ownB (b_alloc hb.out _) HOA.out hg2; clear hg2)
      have HB2 := Lib.hid hb2
      have HO2 := Lib.hid own2
      clear hb2 own2
      go_roundw
      case rel => exact ⟨k + 1, by omega, by first | rfl | trivial | go_num, by rw [HL.out]; exact HO2.out, HB2.out⟩
      case measure => simp [intOf]; omega
    · have e := lstK_all (l := l) (k := k) (by omega)
      have HE := Lib.hid e
      clear e
      go_wp2_with fail
      go_ret
      exact ⟨_, rfl, by rw [← HE.out]; exact ho.out, hb.out⟩
end
section
open Go.RowKit
set_option linter.unusedVariables false
set_option linter.unusedSimpArgs false
attribute [local go_sem] over_cell over_frozen
def RFUNT : TypeId := 60
theorem mayI_bd {op x a b : Int} (h : mayI ⟨op, x, a, b⟩ = true) : (0 ≤ a ∧ a ≤ 65535) ∧ (0 ≤ b ∧ b ≤ 65535) := may_arg h
set_option maxRecDepth 100000 in
set_option maxHeartbeats 4000000 in
theorem rbytes25_any (p : PrV) (P : PrM) (w : World) (h : ReadP w p P) (hm : mayP P = true) (hgd : GoodP P) : Calls Tryd.prog 51 #[aggP p] w (RetOwnB w (bytP P)) := by
  have ok := okP_of hm
  obtain ⟨u, ⟨ga, gn, gc⟩, m, ⟨fa, fn, fc⟩⟩ := p
  obtain ⟨pu, gl, pm, fs⟩ := P
  obtain ⟨hu, hg, hmm, L, hL, hA⟩ := h
  simp only at hu hmm
  subst hu; subst hmm
  have hL : ReadR fnE w (.slice fa fn fc) L := hL
  obtain ⟨hf1, hf2, hf3⟩ := slr_cap hL
  subst hf3
  have hfm := cap_le hf2
  have hg : ReadI w (.slice ga gn gc) gl := hg
  obtain ⟨hg1, hg2, hg3⟩ := sli_cap hg
  subst hg3
  have HG := Lib.hid hg
  have HL := Lib.hid hL
  have HA := Lib.hid hA
  have HFL := Lib.hid (allF_len hA)
  have OK := Lib.hid ok
  have GD := Lib.hid hgd
  clear hg hL hA ok hgd hm hf2 hg2
  unfold aggP Sl.v
  simp only
  go_enter Tryd.func51, Tryd.ntmps51
  go_upto_region 1 with fail
  refine wp_named ?_
  intro W hW
  have hWs : W.heap.size = w.heap.size + 1 := by rw [hW]; simp
  have hbW : Below w.heap.size w W := by rw [hW]; exact b_alloc (Below.refl _ _) _
  have BW : Blk W w.heap.size [.bool u, .slice ga gl.length gc, .int .i64 m, .slice fa L.length fc] := by rw [hW]; exact blk_new _ _ _
  have HWS := Lib.hid hWs
  have hlt : w.heap.size < W.heap.size := by omega
  have HGW := Lib.hid (readI_below HG.out hbW)
  have HLW := Lib.hid (readR_below HL.out hbW)
  have HAW := Lib.hid (allF_below hbW HA.out)
  have HBW := Lib.hid hbW
  have BWH := Lib.hid BW
  obtain ⟨c0, c1, c2, c3, cf⟩ := blk4 BW
  have own2 : OwnB (W.alloc (.cells #[.int .u8 84, .int .u8 77, .int .u8 66, .int .u8 49, .int .u8 0] BYTT)) W.heap.size (.slice (some ⟨W.heap.size, 0, none⟩) 5 5) (headP false) := ownB_lits (headP false) _ rfl 5 rfl (by unfold maxLen; decide) (Nat.le_refl _)
  have HO2 := Lib.hid own2
  clear hW hWs hbW BW own2
  go_upto_if 10 with fail
  go_cut [3] (fun v wx => OwnB wx W.heap.size v (headP u) ∧ Below W.heap.size W wx)
  case first =>
    cases u
    · go_wp2_with fail
      go_meet
      case rel => exact ⟨HO2.out, b_alloc (Below.refl _ _) _⟩
    · go_wp2_with fail
      go_meet
      case rel => exact ⟨ownB_lits (headP true) _ rfl 5 rfl (by unfold maxLen; decide) (Nat.le_refl _), b_alloc (Below.refl _ _) _⟩
  case rest =>
    obtain ⟨own3, hb3⟩ := hcut
    have BX3 := blk_below BWH.out hb3
    clear c0 c1 c2 c3 cf
    obtain ⟨c0, c1, c2, c3, cf⟩ := blk4 BX3
    go_wp2_with fail
    refine (rlist_any _ _ gl (readI_below HGW.out hb3) (by have : gl.length ≤ 8 := OK.out.g; omega)).mono ?_
    rintro e w4 ⟨v4, rfl, own4, hb4⟩
    have own3b := ownB_below own3 hb4
    have hb34 := b_call hb3 hb4
    have HGL : Hid (gl.length ≤ 8) := OK.out.g
    have hhl : (headP u).length = 5 := rfl
    have HHL := Lib.hid hhl
    have hw34 := hb34.size
    clear hhl
    go_upto_region 5 with (at_builtin; (refine appendB rfl _ _ rfl W.heap.size _ _ rfl own3b _ (lstB gl) rfl (ownB_read own4) ?c1 ?c2 ?_); (case c1 => (have := HGL.out; have := HHL.out; rw [lstB_length]; omega)); (case c2 => exact hw34); intro v5 w5 own5 hg5; have hb5 := b_ownB hb34 own3b hg5; clear hg5)
    have BX5 := blk_below BWH.out hb5
    have HX5 : Hid ((headP u ++ lstB gl).length ≤ 14) := by show _ ≤ _; have := HGL.out; have := HHL.out; rw [List.length_append, lstB_length]; omega
    have hw5 := hb5.size
    clear c0 c1 c2 c3 cf own3 own3b own4 hb3 hb4 hb34
    obtain ⟨c0, c1, c2, c3, cf⟩ := blk4 BX5
    go_upto_region 6 with (at_builtin; (refine appendB rfl _ _ rfl W.heap.size _ _ rfl (ownB_alloc own5 _) _ [m % 256, (L.length : Int) % 256] rfl (read_twoB _ _ _) ?c3 ?c4 ?_); (case c3 => (have := HX5.out; simp only [List.length_cons, List.length_nil]; omega)); (case c4 => (simp only [World.size_alloc]; omega)); intro v6 w6 own6 hg6; have hb6 := b_ownB (b_alloc hb5 _) (ownB_alloc own5 _) hg6; clear hg6)
    have BX6 := blk_below BWH.out hb6
    have HO6 := Lib.hid own6
    have HB6 := Lib.hid hb6
    have hw6 := hb6.size
    clear c0 c1 c2 c3 cf own5 hb5 BX5 own6 hb6
    obtain ⟨c0, c1, c2, c3, cf⟩ := blk4 BX6
    clear BX6
    obtain ⟨HD, hHD⟩ : ∃ HD, HD = headP u ++ lstB gl ++ [m % 256, (L.length : Int) % 256] := ⟨_, rfl⟩
    rw [← hHD] at HO6
    have HHD : Hid (HD = headP u ++ lstB gl ++ [m % 256, (L.length : Int) % 256] ∧ HD.length ≤ 16) := ⟨hHD, by have := HX5.out; rw [hHD, List.length_append]; simp only [List.length_cons, List.length_nil]; omega⟩
    clear hHD HX5
    go_wp2_with fail
    go_loopw [3, 31] (fun v i wr => ∃ k : Nat, k ≤ L.length ∧ i = .int .i64 k ∧ Hid (OwnB wr W.heap.size v (HD ++ (fs.take k).flatMap bytF)) ∧ Hid (Below W.heap.size W wr)) (fun _ i _ => L.length - (intOf i).toNat)
    case atStart => exact ⟨0, Nat.zero_le _, rfl, by have e := HO6.out; show OwnB _ _ _ (HD ++ []); rw [List.append_nil]; exact e, HB6.out⟩
    case round =>
      obtain ⟨k, hk, rfl, ho, hb⟩ := hrel
      have k0 : (0 : Int) ≤ k := by omega
      by_cases hlt2 : k < L.length
      · obtain ⟨bl, off, cp, e1, r1, r2, hbl, r4⟩ := readR_pos HLW.out (by omega)
        cases e1
        have k1 : (k : Int) < L.length := by omega
        have hc := fn_cells r4 k hlt2
        rw [← (bcell hb.out).1 _ _ hbl, ← (bcell hb.out).1 _ _ hbl, ← (bcell hb.out).1 _ _ hbl, ← (bcell hb.out).1 _ _ hbl] at hc
        have kf : k < fs.length := by rw [← HFL.out]; exact hlt2
        have DF := Lib.hid (allF_at HAW.out k hlt2 kf)
        have OF := Lib.hid (OK.out.f _ (List.getElem_mem kf))
        have GF := Lib.hid (GD.out _ (List.getElem_mem kf))
        have HN := Lib.hid (flat_snoc (f := bytF) kf)
        have HLN : Hid (((fs.take k).flatMap bytF).length ≤ 20288) := fs_len k OK.out.f2 OK.out.f
        generalize fs[k] = f at *
        generalize L[k] = x at *
        obtain ⟨⟨pa, pn, pc⟩, ⟨la, ln, lc⟩, r, ⟨ca, cn, cc⟩⟩ := x
        obtain ⟨ps, ls, r', code⟩ := f
        simp only at hc
        obtain ⟨d0, d1, d2, d3⟩ := hc
        have er : r = r' := DF.out.r
        subst er
        have dc : ReadR inE W (.slice ca cn cc) code := DF.out.c
        obtain ⟨hc1, hc2, hc3⟩ := slr_cap dc
        subst hc3
        have hcm := cap_le hc2
        have DP : ReadI W (.slice pa pn pc) ps := DF.out.p
        have DL : ReadI W (.slice la ln lc) ls := DF.out.l
        have DC := Lib.hid dc
        clear r4 dc hc2 c0 c1 c2 c3 cf
        have HLE : Hid ((HD ++ (fs.take k).flatMap bytF).length ≤ 20304) := by show _ ≤ _; have := HHD.out.2; have := HLN.out; rw [List.length_append]; omega
        obtain ⟨X, hX⟩ : ∃ X, X = HD ++ (fs.take k).flatMap bytF := ⟨_, rfl⟩
        rw [← hX] at HLE ho
        have HX := Lib.hid hX
        clear hX
        go_upto_region 9 with fail
        refine wp_named ?_
        intro wf hwf
        have BF : Blk wf wr.heap.size [.slice pa pn pc, .slice la ln lc, .int .i64 r, .slice ca code.length cc] := by rw [hwf]; exact blk_new _ _ _
        have TF : tyB wf wr.heap.size = some RFUNT := by rw [hwf]; exact tyB_new _ _ _
        have ownf : OwnB wf W.heap.size u3 X := by rw [hwf]; exact ownB_alloc ho.out _
        have hbf : Below W.heap.size W wf := by rw [hwf]; exact b_alloc hb.out _
        clear hwf d0 d1 d2 d3
        have HBF := Lib.hid BF
        obtain ⟨d0, d1, d2, d3, df⟩ := blk4 BF
        go_wp2_with fail
        refine (rlist_any _ _ ps (readI_below DP hbf) (by have : ps.length ≤ 8 := OF.out.p; omega)).mono ?_
        rintro e w7 ⟨v7, rfl, own7, hb7⟩
        have ownf7 := ownB_below ownf hb7
        have hbf7 := b_call hbf hb7
        have KF7 := keepB_below hb7
        have hw7 := hbf7.size
        go_upto_region 10 with (at_builtin; (refine appendB rfl _ _ rfl W.heap.size _ _ rfl ownf7 _ (lstB ps) rfl (ownB_read own7) ?c5 ?c6 ?_); (case c5 => (have := HLE.out; have : ps.length ≤ 8 := OF.out.p; rw [lstB_length]; omega)); (case c6 => exact hw7); intro v8 w8 own8 hg8; have hb8 := b_ownB hbf7 ownf7 hg8; have KF8 := keepB_trans KF7 (keepB_own ownf7 hg8); clear hg8)
        have HLE8 : Hid ((X ++ lstB ps).length ≤ 20320) := by show _ ≤ _; have := HLE.out; have : ps.length ≤ 8 := OF.out.p; rw [List.length_append, lstB_length]; omega
        clear ownf ownf7 hbf7 KF7 own7 hb7 d0 d1 d2 d3 df BF
        have BF8 := keepB_blk HBF.out TF (by decide) KF8
        obtain ⟨d0, d1, d2, d3, df⟩ := blk4 BF8
        go_wp2_with fail
        refine (rlist_any _ _ ls (readI_below DL hb8) (by have : ls.length ≤ 8 := OF.out.l; omega)).mono ?_
        rintro e w9 ⟨v9, rfl, own9, hb9⟩
        have own89 := ownB_below own8 hb9
        have hb89 := b_call hb8 hb9
        have KF9 := keepB_trans KF8 (keepB_below hb9)
        have hw9 := hb89.size
        go_upto_region 11 with (at_builtin; (refine appendB rfl _ _ rfl W.heap.size _ _ rfl own89 _ (lstB ls) rfl (ownB_read own9) ?c7 ?c8 ?_); (case c7 => (have := HLE8.out; have : ls.length ≤ 8 := OF.out.l; rw [lstB_length]; omega)); (case c8 => exact hw9); intro v10 w10 own10 hg10; have hb10 := b_ownB hb89 own89 hg10; have KF10 := keepB_trans KF9 (keepB_own own89 hg10); clear hg10)
        have HLE10 : Hid ((X ++ lstB ps ++ lstB ls).length ≤ 20330) := by show _ ≤ _; have := HLE8.out; have : ls.length ≤ 8 := OF.out.l; rw [List.length_append, lstB_length]; omega
        clear own8 own89 hb89 KF9 own9 hb9 d0 d1 d2 d3 df BF8 hb8 KF8
        have BF10 := keepB_blk HBF.out TF (by decide) KF10
        obtain ⟨d0, d1, d2, d3, df⟩ := blk4 BF10
        have hw10 := hb10.size
        go_upto_region 12 with (at_builtin; (refine appendB rfl _ _ rfl W.heap.size _ _ rfl (ownB_alloc own10 _) _ [r % 256, (code.length : Int) % 256] rfl (read_twoB _ _ _) ?c9 ?c10 ?_); (case c9 => (have := HLE10.out; simp only [List.length_cons, List.length_nil]; omega)); (case c10 => (simp only [World.size_alloc]; omega)); intro v11 w11 own11 hg11; have hb11 := b_ownB (b_alloc hb10 _) (ownB_alloc own10 _) hg11; have KF11 := keepB_trans (keepB_alloc KF10 _) (keepB_own (ownB_alloc own10 _) hg11); clear hg11)
        obtain ⟨Y, hY⟩ : ∃ Y, Y = X ++ lstB ps ++ lstB ls ++ [r % 256, (code.length : Int) % 256] := ⟨_, rfl⟩
        rw [← hY] at own11
        have HY : Hid (Y = X ++ lstB ps ++ lstB ls ++ [r % 256, (code.length : Int) % 256] ∧ Y.length ≤ 20332) := ⟨hY, by have := HLE10.out; rw [hY, List.length_append]; simp only [List.length_cons, List.length_nil]; omega⟩
        have BF11 := keepB_blk HBF.out TF (by decide) KF11
        clear hY own10 hb10 KF10 d0 d1 d2 d3 df BF10
        obtain ⟨d0, d1, d2, d3, df⟩ := blk4 BF11
        have HO11 := Lib.hid own11
        have HB11 := Lib.hid hb11
        have HKF := Lib.hid KF11
        clear own11 hb11 KF11 BF11 ho hb
        obtain ⟨W1, hW1⟩ : ∃ W1, W1 = wr := ⟨_, rfl⟩
        subst hW1
        go_wp2_with fail
        go_loopw [3, 58] (fun v i wz => ∃ j : Nat, j ≤ code.length ∧ i = .int .i64 j ∧ Hid (OwnB wz W.heap.size v (Y ++ (code.take j).flatMap bytIn)) ∧ Hid (Below W.heap.size W wz)) (fun _ i _ => code.length - (intOf i).toNat)
        case atStart => exact ⟨0, Nat.zero_le _, rfl, by have e := HO11.out; show OwnB _ _ _ (Y ++ []); rw [List.append_nil]; exact e, HB11.out⟩
        case round =>
          obtain ⟨j, hj, rfl, ho, hb⟩ := hrel
          have j0 : (0 : Int) ≤ j := by omega
          by_cases hlt3 : j < code.length
          · obtain ⟨bl2, off2, cp2, e1, r12, r22, hbl2, r42⟩ := readR_pos DC.out (by omega)
            cases e1
            have j1 : (j : Int) < code.length := by omega
            have hcs := in_cells r42 j hlt3
            rw [← (bcell hb.out).1 _ _ hbl2, ← (bcell hb.out).1 _ _ hbl2, ← (bcell hb.out).1 _ _ hbl2, ← (bcell hb.out).1 _ _ hbl2] at hcs
            have HNJ := Lib.hid (flat_snoc (f := bytIn) hlt3)
            have HLJ := Lib.hid (code_len j OF.out.c2)
            have HM := Lib.hid (OF.out.i _ (List.getElem_mem hlt3))
            have HG := Lib.hid (GF.out _ (List.getElem_mem hlt3))
            have HL13 := Lib.hid (bytIn_le code[j])
            generalize code[j] = ii at *
            obtain ⟨iop, ix, ia, ib⟩ := ii
            simp only at hcs
            obtain ⟨i0, i1, i2, i3⟩ := hcs
            clear r42 d0 d1 d2 d3 df
            go_wp2_with fail
            refine (rbytes_any iop ix ia ib _ HG.out.1 HG.out.2 (mayI_bd HM.out).1 (mayI_bd HM.out).2).mono ?_
            rintro e w12 ⟨v12, rfl, own12, hb12⟩
            have own13 := ownB_below (ownB_alloc ho.out (.cells #[.int .i64 iop, .int .u64 ix, .int .i64 ia, .int .i64 ib] 42)) hb12
            have hb13 := b_call (b_alloc hb.out _) hb12
            have hw13 := hb13.size
            go_wp2_with (at_builtin; (refine appendB rfl _ _ rfl W.heap.size _ _ rfl own13 _ (bytIn ⟨iop, ix, ia, ib⟩) rfl (ownB_read own12) ?c11 ?c12 ?_); (case c11 => (have := HY.out.2; have := HLJ.out; have := HL13.out; rw [List.length_append]; omega)); (case c12 => exact hw13); intro v14 w14 own14 hg14; have hb14 := b_ownB hb13 own13 hg14; clear hg14)
            have HO14 := Lib.hid own14
            have HB14 := Lib.hid hb14
            clear own12 hb12 own13 hb13 own14 hb14
            go_roundw
            case rel => exact ⟨j + 1, by omega, by first | rfl | trivial | go_num, by rw [HNJ.out, ← List.append_assoc]; exact HO14.out, HB14.out⟩
            case measure => simp [intOf]; omega
          · have hall : (code.take j).flatMap bytIn = code.flatMap bytIn := by rw [List.take_of_length_le (by omega)]
            have HALL := Lib.hid hall
            clear hall
            go_wp2_with fail
            go_roundw
            case rel => exact ⟨k + 1, by omega, by first | rfl | trivial | go_num, by
              have e := ho.out
              rw [HALL.out, HY.out.1, HX.out] at e
              have eb : bytF ⟨ps, ls, r, code⟩ = lstB ps ++ lstB ls ++ [r % 256, (code.length : Int) % 256] ++ code.flatMap bytIn := rfl
              show OwnB _ _ _ _
              rw [HN.out, eb]
              simp only [← List.append_assoc]
              exact e, hb.out⟩
            case measure => simp [intOf]; omega
      · have hall : (fs.take k).flatMap bytF = fs.flatMap bytF := by rw [List.take_of_length_le (by have := HFL.out; omega)]
        have HALL := Lib.hid hall
        clear hall
        go_wp2_with fail
        go_ret
        exact ⟨_, rfl, ownB_mono (by
          have e := ho.out
          rw [HALL.out, HHD.out.1] at e
          have eb : bytP ⟨u, gl, m, fs⟩ = headP u ++ lstB gl ++ [m % 256, (L.length : Int) % 256] ++ fs.flatMap bytF := by unfold bytP; rw [HFL.out]
          rw [eb]; exact e) (by have := HWS.out; omega), by
          have e := hb.out
          rw [HWS.out] at e
          exact HBW.out.trans (hb.out.mono (by have := HWS.out; omega))⟩
end
section
open Go.RowKit
set_option linter.unusedVariables false
set_option linter.unusedSimpArgs false
theorem conv_own {w : World} {B : Nat} {v : Value} {xs : List Int} {n : Nat} (h : OwnB w B v xs) (hn : n = xs.length) (hp : 0 < n) (hb : IsBytes xs) : ∃ g cap, v = .slice (some ⟨g, 0, none⟩) n cap ∧ g < w.heap.size ∧ B ≤ g ∧ ∀ w', Below w.heap.size w w' → (convert 51 9 (.slice (some ⟨g, 0, none⟩) n cap)).run Tryd.prog w' = .ok (.string (bytesOf xs)) w' := by
  obtain ⟨g, cap, rfl, h1, h2, h3, h4, h5, h6⟩ := ownB_form h (by omega)
  refine ⟨g, cap, by rw [hn], h2, h1, fun w' hB => ?_⟩
  refine conv_bytes (xs := xs) hn.symm hb (fun j hj => ?_)
  rw [Addr.add_lit, Nat.zero_add, (bcell hB).1 _ _ h2]
  exact h5 j (by omega)
end
section
open Go.RowKit
set_option linter.unusedVariables false
set_option linter.unusedSimpArgs false
attribute [local go_sem] over_cell over_frozen
theorem isBytes_mod (l : List Int) : IsBytes (l.map (· % 256)) := fun x hx => by
  obtain ⟨y, _, rfl⟩ := List.mem_map.1 hx; omega
theorem isBytes_lstB (l : List Int) : IsBytes (lstB l) := by
  unfold lstB
  exact isBytes_append (fun x hx => by simp only [List.mem_singleton] at hx; omega) (isBytes_mod l)
theorem isBytes_flat {α : Type} {f : α → List Int} : ∀ {L : List α} (_ : ∀ x ∈ L, IsBytes (f x)), IsBytes (L.flatMap f)
  | [], _ => isBytes_nil
  | x :: l, h => by rw [List.flatMap_cons]; exact isBytes_append (h x (List.mem_cons_self ..)) (isBytes_flat (fun y hy => h y (List.mem_cons_of_mem _ hy)))
theorem isBytes_bytF (f : FnM) : IsBytes (bytF f) := by
  unfold bytF
  refine isBytes_append (isBytes_append (isBytes_append (isBytes_lstB _) (isBytes_lstB _)) (fun x hx => ?_)) (isBytes_flat (fun i _ => isBytes_bytesI _ _ _ _))
  simp only [List.mem_cons, List.not_mem_nil, or_false] at hx
  omega
theorem isBytes_bytP (p : PrM) : IsBytes (bytP p) := by
  unfold bytP headP
  refine isBytes_append (isBytes_append (isBytes_append (fun x hx => ?_) (isBytes_lstB _)) (fun x hx => ?_)) (isBytes_flat (fun f _ => isBytes_bytF f))
  · simp only [List.mem_cons, List.not_mem_nil, or_false] at hx
    split at hx <;> omega
  · simp only [List.mem_cons, List.not_mem_nil, or_false] at hx
    omega
set_option maxHeartbeats 1000000 in
theorem rints_eq (u v : Value) (xs : List Int) (w : World) (h : ReadI w u xs) (h' : ReadI w v xs) (hl : xs.length + 2 ≤ 1099511627776) : Calls Tryd.prog 50 #[u, v] w fun e w' => e = .returned (.bool true) ∧ Below w.heap.size w w' := by
  obtain ⟨a, cap, rfl⟩ := readI_len h
  obtain ⟨a', cap', rfl⟩ := readI_len h'
  obtain ⟨s, hs⟩ : ∃ s, s = bytesOf (lstB xs) := ⟨_, rfl⟩
  have HS := Lib.hid hs
  have HL := Lib.hid hl
  have HU : Hid (∀ W, Below w.heap.size w W → ReadI W (.slice a xs.length cap) xs) := fun W hb => readI_below h hb
  have HV : Hid (∀ W, Below w.heap.size w W → ReadI W (.slice a' xs.length cap') xs) := fun W hb => readI_below h' hb
  clear hs hl h h'
  go_enter Tryd.func50, Tryd.ntmps50
  go_wp2_with fail
  refine wp_region_held_drew (S := (fun _ => True)) (by kernel_rfl) trivial (fun hHeld => ?_)
  (refine wpAnyH_take (i := 0) (v := ?_) rfl (by kernel_rfl) (by kernel_rfl) (by kernel_rfl) (fun _ _ _ h => h) (Or.inl ⟨by rfl, ?_⟩) hHeld ?_; rotate_left; (focus (intro w hSw; (try dsimp only at hSw); go_simp; try (with_reducible rfl))); (try simp only [Act.put, List.getElem_toArray, List.getElem_cons_succ, List.getElem_cons_zero, List.setIfInBounds_toArray, List.set_cons_zero, List.set_cons_succ]))
  (refine wpAnyH_take (i := 3) (v := ?_) rfl (by kernel_rfl) (by kernel_rfl) (by kernel_rfl) (fun _ _ _ h => h) (Or.inl ⟨by rfl, ?_⟩) hHeld ?_; rotate_left; (focus (intro w hSw; (try dsimp only at hSw); go_simp; try (with_reducible rfl))); (try simp only [Act.put, List.getElem_toArray, List.getElem_cons_succ, List.getElem_cons_zero, List.setIfInBounds_toArray, List.set_cons_zero, List.set_cons_succ]))
  refine wpAnyH_ready (rs := [1]) (by kernel_rfl) (by simp) (AllReadyH.cons rfl (fun K hK => ?_) AllReadyH.nil)
  go_simp
  refine (rlist_any _ _ xs (HU.out _ (by (repeat' (first | exact Below.refl _ _ | assumption | refine b_alloc ?_ _ | refine b_over ?_ _ | refine b_drew ?_ | refine b_call ?_ (by assumption))))) HL.out).mono ?_
  rintro e w1 ⟨v1, rfl, own1, hb1⟩
  obtain ⟨g1, c1, rfl, _, _, hcv1⟩ := conv_own own1 (n := (lstB xs).length) rfl (by rw [lstB_length]; omega) (isBytes_lstB xs)
  rw [← HS.out] at hcv1
  have HCV1 := Lib.hid hcv1
  clear own1 hcv1
  refine hK.out _ _ (trivial) (fun hHeld => ?_)
  clear hK K
  (try simp only [Act.put, List.getElem_toArray, List.getElem_cons_succ, List.getElem_cons_zero, List.setIfInBounds_toArray, List.set_cons_zero, List.set_cons_succ])
  refine wpAnyH_switch (S' := (fun w' => (convert 51 9 (.slice (some ⟨g1, 0, none⟩) (lstB xs).length c1)).run Tryd.prog w' = .ok (.string s) w')) (fun _ h => trivial) (HCV1.out _ (Below.refl _ _)) (fun hHeld => ?_)
  (refine wpAnyH_take (i := 2) (v := ?_) rfl (by kernel_rfl) (by kernel_rfl) (by kernel_rfl) (fun _ _ _ h => h) (Or.inl ⟨by rfl, ?_⟩) hHeld ?_; rotate_left; (focus (intro w hSw; (try dsimp only at hSw); go_simp; try (with_reducible rfl))); (try simp only [Act.put, List.getElem_toArray, List.getElem_cons_succ, List.getElem_cons_zero, List.setIfInBounds_toArray, List.set_cons_zero, List.set_cons_succ]))
  refine wpAnyH_ready (rs := [4]) (by kernel_rfl) (by simp) (AllReadyH.cons rfl (fun K hK => ?_) AllReadyH.nil)
  go_simp
  refine (rlist_any _ _ xs (HV.out _ (by (repeat' (first | exact Below.refl _ _ | assumption | refine b_alloc ?_ _ | refine b_over ?_ _ | refine b_drew ?_ | refine b_call ?_ (by assumption))))) HL.out).mono ?_
  rintro e w2 ⟨v2, rfl, own2, hb2⟩
  obtain ⟨g2, c2, rfl, _, _, hcv2⟩ := conv_own own2 (n := (lstB xs).length) rfl (by rw [lstB_length]; omega) (isBytes_lstB xs)
  rw [← HS.out] at hcv2
  have HCV2 := Lib.hid hcv2
  clear own2 hcv2
  refine hK.out _ _ (HCV1.out _ (by (repeat' (first | exact Below.refl _ _ | assumption | refine b_alloc ?_ _ | refine b_over ?_ _ | refine b_drew ?_ | refine b_call ?_ (by assumption))))) (fun hHeld => ?_)
  clear hK K
  (try simp only [Act.put, List.getElem_toArray, List.getElem_cons_succ, List.getElem_cons_zero, List.setIfInBounds_toArray, List.set_cons_zero, List.set_cons_succ])
  refine wpAnyH_switch (S' := (fun w' => (convert 51 9 (.slice (some ⟨g1, 0, none⟩) (lstB xs).length c1)).run Tryd.prog w' = .ok (.string s) w' ∧ (convert 51 9 (.slice (some ⟨g2, 0, none⟩) (lstB xs).length c2)).run Tryd.prog w' = .ok (.string s) w')) (fun _ h => h.1) ⟨HCV1.out _ (by (repeat' (first | exact Below.refl _ _ | assumption | refine b_alloc ?_ _ | refine b_over ?_ _ | refine b_drew ?_ | refine b_call ?_ (by assumption)))), HCV2.out _ (Below.refl _ _)⟩ (fun hHeld => ?_)
  refine atI 5 ?_
  iterate 10 (refine takeN (v := ?_) rfl (by rfl) ?_ hHeld ?_; rotate_left; (focus (intro w hSw; (try dsimp only at hSw); go_simp; try (with_reducible rfl))); (try simp only [Act.put, Nat.reduceAdd, List.getElem_toArray, List.getElem_cons_succ, List.getElem_cons_zero, List.setIfInBounds_toArray, List.set_cons_zero, List.set_cons_succ]))
  refine atIo ?_
  refine wpAnyH_done (by kernel_rfl) ?_ _
  go_wp2
  go_ret
  exact ⟨rfl, by (repeat' (first | exact Below.refl _ _ | assumption | refine b_alloc ?_ _ | refine b_over ?_ _ | refine b_drew ?_ | refine b_call ?_ (by assumption)))⟩
set_option maxRecDepth 100000 in
set_option maxHeartbeats 2000000 in
theorem rsame_eq (v1 v2 : PrV) (P : PrM) (w : World) (h1 : ReadP w v1 P) (h2 : ReadP w v2 P) (hm : mayP P = true) (hgd : GoodP P) : Calls Tryd.prog 19 #[aggP v1, aggP v2] w fun e w' => e = .returned (.bool true) ∧ Below w.heap.size w w' := by
  have ok := okP_of hm
  obtain ⟨u, ⟨ga, gn, gc⟩, m, ⟨fa, fn, fc⟩⟩ := v1
  obtain ⟨u', ⟨ga', gn', gc'⟩, m', ⟨fa', fn', fc'⟩⟩ := v2
  have HP1 := Lib.hid h1
  have HP2 := Lib.hid h2
  obtain ⟨pu, gl, pm, fs⟩ := P
  obtain ⟨e1, g1, e2, f1⟩ := h1
  obtain ⟨e1', g1', e2', f1'⟩ := h2
  simp only at e1 e2 e1' e2'
  subst e1; subst e2; subst e1'; subst e2'
  have hfl : fn = fs.length := by
    obtain ⟨L, hL, hA⟩ := f1
    exact (slr_cap (show ReadR fnE w (.slice fa fn fc) L from hL)).2.2.trans (allF_len hA)
  have hfl' : fn' = fs.length := by
    obtain ⟨L, hL, hA⟩ := f1'
    exact (slr_cap (show ReadR fnE w (.slice fa' fn' fc') L from hL)).2.2.trans (allF_len hA)
  subst hfl; subst hfl'
  have HG := Lib.hid (show ReadI w (.slice ga gn gc) gl from g1)
  have HG' := Lib.hid (show ReadI w (.slice ga' gn' gc') gl from g1')
  have HGL : Hid (gl.length ≤ 8) := ok.g
  obtain ⟨s, hs⟩ : ∃ s, s = bytesOf (bytP ⟨u', gl, m', fs⟩) := ⟨_, rfl⟩
  have HS := Lib.hid hs
  obtain ⟨N, hN⟩ : ∃ N, N = (bytP ⟨u', gl, m', fs⟩).length := ⟨_, rfl⟩
  have HN := Lib.hid hN
  have HN0 : Hid (0 < (bytP ⟨u', gl, m', fs⟩).length) := by show 0 < _; unfold bytP headP; simp
  have HM := Lib.hid hm
  have HGD := Lib.hid hgd
  clear g1 g1' f1 f1' hs hN ok hm hgd
  unfold aggP Sl.v
  simp only
  have HB0 := Lib.hid (b_alloc (b_alloc (Below.refl w.heap.size w) (.cells #[.bool u', .slice ga gn gc, .int .i64 m', .slice fa fs.length fc] 25)) (.cells #[.bool u', .slice ga' gn' gc', .int .i64 m', .slice fa' fs.length fc'] 25))
  have HX1 : Hid (Blk ((w.alloc (.cells #[.bool u', .slice ga gn gc, .int .i64 m', .slice fa fs.length fc] 25)).alloc (.cells #[.bool u', .slice ga' gn' gc', .int .i64 m', .slice fa' fs.length fc'] 25)) w.heap.size [.bool u', .slice ga gn gc, .int .i64 m', .slice fa fs.length fc]) := blk_alloc (blk_new _ _ _) _
  have HX2 : Hid (Blk ((w.alloc (.cells #[.bool u', .slice ga gn gc, .int .i64 m', .slice fa fs.length fc] 25)).alloc (.cells #[.bool u', .slice ga' gn' gc', .int .i64 m', .slice fa' fs.length fc'] 25)) (w.heap.size + 1) [.bool u', .slice ga' gn' gc', .int .i64 m', .slice fa' fs.length fc']) := blk_new2 (by simp)
  go_enter Tryd.func19, Tryd.ntmps19
  go_wp2_with fail
  refine (rints_eq _ _ gl _ (readI_below HG.out HB0.out) (readI_below HG'.out HB0.out) (by have := HGL.out; omega)).mono ?_
  rintro e W ⟨rfl, hb1⟩
  have BW1 := blk_below HX1.out hb1
  have BW2 := blk_below HX2.out hb1
  have HBW := Lib.hid (b_call HB0.out hb1)
  have HH : Hid (∀ w', Below W.heap.size W w' → (w'.cell? ⟨w.heap.size, 0, none⟩ = some (.bool u') ∧ w'.cell? ⟨w.heap.size, 1, none⟩ = some (.slice ga gn gc) ∧ w'.cell? ⟨w.heap.size, 2, none⟩ = some (.int .i64 m') ∧ w'.cell? ⟨w.heap.size, 3, none⟩ = some (.slice fa fs.length fc)) ∧ (w'.cell? ⟨w.heap.size + 1, 0, none⟩ = some (.bool u') ∧ w'.cell? ⟨w.heap.size + 1, 1, none⟩ = some (.slice ga' gn' gc') ∧ w'.cell? ⟨w.heap.size + 1, 2, none⟩ = some (.int .i64 m') ∧ w'.cell? ⟨w.heap.size + 1, 3, none⟩ = some (.slice fa' fs.length fc'))) := Lib.hid (fun w' hb => by
    obtain ⟨p0, p1, p2, p3, _⟩ := blk4 (blk_below BW1 hb)
    obtain ⟨q0, q1, q2, q3, _⟩ := blk4 (blk_below BW2 hb)
    exact ⟨⟨p0, p1, p2, p3⟩, q0, q1, q2, q3⟩)
  clear BW1 BW2 hb1
  go_upto_region 3 with fail
  refine wp_region_held_drew (S := (fun w' => (w'.cell? ⟨w.heap.size, 0, none⟩ = some (.bool u') ∧ w'.cell? ⟨w.heap.size, 1, none⟩ = some (.slice ga gn gc) ∧ w'.cell? ⟨w.heap.size, 2, none⟩ = some (.int .i64 m') ∧ w'.cell? ⟨w.heap.size, 3, none⟩ = some (.slice fa fs.length fc)) ∧ (w'.cell? ⟨w.heap.size + 1, 0, none⟩ = some (.bool u') ∧ w'.cell? ⟨w.heap.size + 1, 1, none⟩ = some (.slice ga' gn' gc') ∧ w'.cell? ⟨w.heap.size + 1, 2, none⟩ = some (.int .i64 m') ∧ w'.cell? ⟨w.heap.size + 1, 3, none⟩ = some (.slice fa' fs.length fc')))) (by kernel_rfl) (HH.out _ (b_drew (Below.refl _ _))) (fun hHeld => ?_)
  (refine wpAnyH_take (i := 0) (v := ?_) rfl (by kernel_rfl) (by kernel_rfl) (by kernel_rfl) (fun _ _ _ h => h) (Or.inl ⟨by rfl, ?_⟩) hHeld ?_; rotate_left; (focus (intro w hSw; (try dsimp only at hSw); go_simp; try (with_reducible rfl))); (try simp only [Act.put, List.getElem_toArray, List.getElem_cons_succ, List.getElem_cons_zero, List.setIfInBounds_toArray, List.set_cons_zero, List.set_cons_succ]))
  (refine wpAnyH_take (i := 3) (v := ?_) rfl (by kernel_rfl) (by kernel_rfl) (by kernel_rfl) (fun _ _ _ h => h) (Or.inl ⟨by rfl, ?_⟩) hHeld ?_; rotate_left; (focus (intro w hSw; (try dsimp only at hSw); go_simp; try (with_reducible rfl))); (try simp only [Act.put, List.getElem_toArray, List.getElem_cons_succ, List.getElem_cons_zero, List.setIfInBounds_toArray, List.set_cons_zero, List.set_cons_succ]))
  refine wpAnyH_ready (rs := [1]) (by kernel_rfl) (by simp) (AllReadyH.cons rfl (fun K hK => ?_) AllReadyH.nil)
  go_simp
  refine (rbytes25_any ⟨u', ⟨ga, gn, gc⟩, m', ⟨fa, fs.length, fc⟩⟩ ⟨u', gl, m', fs⟩ _ (readP_below HP1.out (b_call HBW.out (by (repeat' (first | exact Below.refl _ _ | assumption | refine b_alloc ?_ _ | refine b_over ?_ _ | refine b_drew ?_ | refine b_call ?_ (by assumption)))))) HM.out HGD.out).mono ?_
  rintro e w1 ⟨v1, rfl, own1, hb1⟩
  obtain ⟨g1, c1, rfl, _, _, hcv1⟩ := conv_own own1 (n := N) HN.out (by rw [HN.out]; exact HN0.out) (isBytes_bytP _)
  rw [← HS.out] at hcv1
  have HCV1 := Lib.hid hcv1
  clear own1 hcv1
  refine hK.out _ _ (HH.out _ (by (repeat' (first | exact Below.refl _ _ | assumption | refine b_alloc ?_ _ | refine b_over ?_ _ | refine b_drew ?_ | refine b_call ?_ (by assumption))))) (fun hHeld => ?_)
  clear hK K
  (try simp only [Act.put, List.getElem_toArray, List.getElem_cons_succ, List.getElem_cons_zero, List.setIfInBounds_toArray, List.set_cons_zero, List.set_cons_succ])
  refine wpAnyH_switch (S' := (fun w' => ((w'.cell? ⟨w.heap.size, 0, none⟩ = some (.bool u') ∧ w'.cell? ⟨w.heap.size, 1, none⟩ = some (.slice ga gn gc) ∧ w'.cell? ⟨w.heap.size, 2, none⟩ = some (.int .i64 m') ∧ w'.cell? ⟨w.heap.size, 3, none⟩ = some (.slice fa fs.length fc)) ∧ (w'.cell? ⟨w.heap.size + 1, 0, none⟩ = some (.bool u') ∧ w'.cell? ⟨w.heap.size + 1, 1, none⟩ = some (.slice ga' gn' gc') ∧ w'.cell? ⟨w.heap.size + 1, 2, none⟩ = some (.int .i64 m') ∧ w'.cell? ⟨w.heap.size + 1, 3, none⟩ = some (.slice fa' fs.length fc'))) ∧ (convert 51 9 (.slice (some ⟨g1, 0, none⟩) N c1)).run Tryd.prog w' = .ok (.string s) w')) (fun _ h => h.1) ⟨HH.out _ (by (repeat' (first | exact Below.refl _ _ | assumption | refine b_alloc ?_ _ | refine b_over ?_ _ | refine b_drew ?_ | refine b_call ?_ (by assumption)))), HCV1.out _ (Below.refl _ _)⟩ (fun hHeld => ?_)
  (refine wpAnyH_take (i := 2) (v := ?_) rfl (by kernel_rfl) (by kernel_rfl) (by kernel_rfl) (fun _ _ _ h => h) (Or.inl ⟨by rfl, ?_⟩) hHeld ?_; rotate_left; (focus (intro w hSw; (try dsimp only at hSw); go_simp; try (with_reducible rfl))); (try simp only [Act.put, List.getElem_toArray, List.getElem_cons_succ, List.getElem_cons_zero, List.setIfInBounds_toArray, List.set_cons_zero, List.set_cons_succ]))
  refine wpAnyH_ready (rs := [4]) (by kernel_rfl) (by simp) (AllReadyH.cons rfl (fun K hK => ?_) AllReadyH.nil)
  go_simp
  refine (rbytes25_any ⟨u', ⟨ga', gn', gc'⟩, m', ⟨fa', fs.length, fc'⟩⟩ ⟨u', gl, m', fs⟩ _ (readP_below HP2.out (b_call HBW.out (by (repeat' (first | exact Below.refl _ _ | assumption | refine b_alloc ?_ _ | refine b_over ?_ _ | refine b_drew ?_ | refine b_call ?_ (by assumption)))))) HM.out HGD.out).mono ?_
  rintro e w2 ⟨v2, rfl, own2, hb2⟩
  obtain ⟨g2, c2, rfl, _, _, hcv2⟩ := conv_own own2 (n := N) HN.out (by rw [HN.out]; exact HN0.out) (isBytes_bytP _)
  rw [← HS.out] at hcv2
  have HCV2 := Lib.hid hcv2
  clear own2 hcv2
  refine hK.out _ _ (⟨HH.out _ (by (repeat' (first | exact Below.refl _ _ | assumption | refine b_alloc ?_ _ | refine b_over ?_ _ | refine b_drew ?_ | refine b_call ?_ (by assumption)))), HCV1.out _ (by (repeat' (first | exact Below.refl _ _ | assumption | refine b_alloc ?_ _ | refine b_over ?_ _ | refine b_drew ?_ | refine b_call ?_ (by assumption))))⟩) (fun hHeld => ?_)
  clear hK K
  (try simp only [Act.put, List.getElem_toArray, List.getElem_cons_succ, List.getElem_cons_zero, List.setIfInBounds_toArray, List.set_cons_zero, List.set_cons_succ])
  refine wpAnyH_switch (S' := (fun w' => (((w'.cell? ⟨w.heap.size, 0, none⟩ = some (.bool u') ∧ w'.cell? ⟨w.heap.size, 1, none⟩ = some (.slice ga gn gc) ∧ w'.cell? ⟨w.heap.size, 2, none⟩ = some (.int .i64 m') ∧ w'.cell? ⟨w.heap.size, 3, none⟩ = some (.slice fa fs.length fc)) ∧ (w'.cell? ⟨w.heap.size + 1, 0, none⟩ = some (.bool u') ∧ w'.cell? ⟨w.heap.size + 1, 1, none⟩ = some (.slice ga' gn' gc') ∧ w'.cell? ⟨w.heap.size + 1, 2, none⟩ = some (.int .i64 m') ∧ w'.cell? ⟨w.heap.size + 1, 3, none⟩ = some (.slice fa' fs.length fc'))) ∧ (convert 51 9 (.slice (some ⟨g1, 0, none⟩) N c1)).run Tryd.prog w' = .ok (.string s) w') ∧ (convert 51 9 (.slice (some ⟨g2, 0, none⟩) N c2)).run Tryd.prog w' = .ok (.string s) w')) (fun _ h => h.1) ⟨⟨HH.out _ (by (repeat' (first | exact Below.refl _ _ | assumption | refine b_alloc ?_ _ | refine b_over ?_ _ | refine b_drew ?_ | refine b_call ?_ (by assumption)))), HCV1.out _ (by (repeat' (first | exact Below.refl _ _ | assumption | refine b_alloc ?_ _ | refine b_over ?_ _ | refine b_drew ?_ | refine b_call ?_ (by assumption))))⟩, HCV2.out _ (Below.refl _ _)⟩ (fun hHeld => ?_)
  refine atI 5 ?_
  iterate 3 (refine takeN (v := ?_) rfl (by rfl) ?_ hHeld ?_; rotate_left; (focus (intro w hSw; (try dsimp only at hSw); go_simp; try (with_reducible rfl))); (try simp only [Act.put, Nat.reduceAdd, List.getElem_toArray, List.getElem_cons_succ, List.getElem_cons_zero, List.setIfInBounds_toArray, List.set_cons_zero, List.set_cons_succ]))
  refine atIo ?_
  refine wpAnyH_done (by kernel_rfl) ?_ _
  go_wp2
  go_ret
  exact ⟨rfl, b_call HBW.out (by (repeat' (first | exact Below.refl _ _ | assumption | refine b_alloc ?_ _ | refine b_over ?_ _ | refine b_drew ?_ | refine b_call ?_ (by assumption))))⟩
end
end Go.Proofs.YtedmjlhgpdeafaaDoor
