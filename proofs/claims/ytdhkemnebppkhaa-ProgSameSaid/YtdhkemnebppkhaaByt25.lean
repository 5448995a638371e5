/- Layer 25: the program's own bytes: those of a program that may be, or none. Conditions: the program reads as lists, its numbers are of their kinds. -/
import Derived.Test.YtdhkemnebppkhaaRByt25
import Derived.Lib.SlBytesConst
import Derived.Deep.RegionLawGrows
namespace Go.Proofs.Ytdhkemnebppkhaa
open Go.RowKit
set_option linter.unusedVariables false
set_option linter.unusedSimpArgs false
attribute [local go_sem] over_cell over_frozen
theorem appendB_grows {ops : Array Oper} {rest : List Oper} {o : Oper} {a : Act} {Q : Exit → Act → World → Prop} {w : World} (hgd : o.guard = none) (s x : Operand)
    (ho : o.op = .call { callee := .builtin .append, args := #[s, x], argTypes := #[37, 37] }) (b : Addr) (n cap : Nat) (xs : List Int) (hs : a.eval s = .slice (some b) n cap) (hn : n = xs.length)
    (hc : ∀ j, j < n → w.cell? (b.add j) = some (.int .u8 (xs.getD j 0))) (u : Value) (ys : List Int) (hx : a.eval x = u) (hr : ReadB w u ys) (hp : 0 < ys.length) (hg : cap < n + ys.length) (hlen : n + ys.length ≤ 1099511627776)
    (h : ∀ v' w', OwnB w' w.heap.size v' (xs ++ ys) → Below w.heap.size w w' → wpList Try.prog ops Q rest (a.put o.dst v') w') : wpList Try.prog ops Q (o :: rest) a w :=
  wpList_plain hgd fun _ hK => by
    subst hn
    obtain ⟨i, hi, hz, hs1, hb1⟩ := info_parts Try.infoByte
    obtain ⟨b2, o2, cp2, rfl, r1, r2, r3, r4⟩ := readB_pos hr hp
    have hat : ∀ (zs : List Int) (j : Nat) (v : Value), (byts zs)[j]? = some v → j < zs.length ∧ v = .int .u8 (zs.getD j 0) := fun zs j v hj => by
      have hlt : j < zs.length := by
        rcases Nat.lt_or_ge j zs.length with q | q
        · exact q
        · rw [List.getElem?_eq_none (by rw [byts_length]; exact q)] at hj; cases hj
      refine ⟨hlt, ?_⟩
      unfold byts at hj
      rw [List.getElem?_map, List.getElem?_eq_getElem hlt] at hj
      rw [List.getD_eq_getElem?_getD, List.getElem?_eq_getElem hlt]
      simpa using hj.symm
    obtain ⟨v', w', hrun, q1, q2⟩ := run_append_arg_grows (P := Try.prog) w 37 o.type 5 i _ 1 1 under_byts hi hz hs1 hb1 (by rfl) (by decide) b xs.length cap (byts xs) (by rw [byts_length]; omega) (fun j v hj => by
        obtain ⟨h1, h2⟩ := hat _ _ _ hj
        rw [h2]; exact hc j h1) ⟨b2, o2, none⟩ ys.length cp2 (byts ys) (by rw [byts_length]; omega) (fun j v hj => by
        obtain ⟨h1, h2⟩ := hat _ _ _ hj
        rw [h2, Addr.add_lit]; exact r4 j h1) hg (by unfold maxLen; omega) (by omega)
    unfold Oper.wp
    simp [execOp, ho, resolve, invoke, builtin, hs, hx, hrun, Result.andThen]
    refine hK _ _ (h v' w' ?_ (below_none q2))
    unfold OwnB
    rw [List.length_append]
    have e : byts (xs ++ ys) = byts xs ++ byts ys := by unfold byts; simp
    rw [e]; exact q1
def PFUNT : TypeId := 63
theorem pbytes_none (p : PrV) (P : PrM) (w : World) (h : ReadP w p P) (hm : mayP P = false) : Calls Try.prog 30 #[aggP p] w (RetBytes w [] 1) := by
  have H := Lib.hid h
  have HM := Lib.hid hm
  clear h hm
  unfold aggP
  go_enter Try.func30, Try.ntmps30
  go_wp2_with fail
  refine (pmay_any p P _ (readP_below H.out (b_alloc (Below.refl _ _) _))).mono ?_
  rintro e w1 ⟨rfl, hb1⟩
  rw [HM.out]
  have HB := Lib.hid (b_call (b_alloc (Below.refl w.heap.size w) _) hb1)
  clear hb1
  go_wp2_with fail
  go_ret2
  exact ⟨_, rfl, ownB_nil _ _, HB.out⟩
set_option maxRecDepth 100000 in
set_option maxHeartbeats 4000000 in
theorem pbytes_some (p : PrV) (P : PrM) (w : World) (h : ReadP w p P) (hm : mayP P = true) (hgd : GoodP P) : Calls Try.prog 30 #[aggP p] w (RetBytes w (bytP P) 0) := by
  have ok := okP_of hm
  obtain ⟨u, ⟨ga, gn, gc⟩, m, ⟨fa, fn, fc⟩⟩ := p
  obtain ⟨pu, gl, pm, fs⟩ := P
  obtain ⟨hu, hg, hmm, L, hL, hA⟩ := h
  simp only at hu hmm
  subst hu; subst hmm
  have hL : ReadR fnE w (.slice fa fn fc) L := hL
  obtain ⟨hf1, hf2, hf3⟩ := slr_cap hL
  subst hf3
  have hfm := cap_le hf2
  have hg : ReadI w (.slice ga gn gc) gl := hg
  obtain ⟨hg1, hg2, hg3⟩ := sli_cap hg
  subst hg3
  have HR := Lib.hid (show ReadP w ⟨u, ⟨ga, gl.length, gc⟩, m, ⟨fa, L.length, fc⟩⟩ ⟨u, gl, m, fs⟩ from ⟨rfl, hg, rfl, L, hL, hA⟩)
  have HM := Lib.hid hm
  have HG := Lib.hid hg
  have HL := Lib.hid hL
  have HA := Lib.hid hA
  have HFL := Lib.hid (allF_len hA)
  have OK := Lib.hid ok
  have GD := Lib.hid hgd
  clear hg hL hA ok hgd hm hf2 hg2
  unfold aggP Sl.v
  simp only
  go_enter Try.func30, Try.ntmps30
  go_wp2_with fail
  refine (pmay_any ⟨u, ⟨ga, gl.length, gc⟩, m, ⟨fa, L.length, fc⟩⟩ ⟨u, gl, m, fs⟩ _ (readP_below HR.out (b_alloc (Below.refl _ _) _))).mono ?_
  rintro e W ⟨rfl, hb1⟩
  rw [HM.out]
  have hWs : w.heap.size + 1 ≤ W.heap.size := by have := hb1.size; simpa using this
  have hbW : Below w.heap.size w W := b_call (b_alloc (Below.refl w.heap.size w) _) hb1
  have BW : Blk W w.heap.size [.bool u, .slice ga gl.length gc, .int .i64 m, .slice fa L.length fc] := blk_born hb1
  have HWS := Lib.hid hWs
  have hlt : w.heap.size < W.heap.size := by omega
  have HGW := Lib.hid (readI_below HG.out hbW)
  have HLW := Lib.hid (readR_below HL.out hbW)
  have HAW := Lib.hid (allF_below hbW HA.out)
  have HBW := Lib.hid hbW
  have BWH := Lib.hid BW
  obtain ⟨c0, c1, c2, c3, cf⟩ := blk4 BW
  clear hWs hbW BW hb1
  have HMK : Hid (∀ (o : Obj) (j : Nat), j < 4 → ((W.alloc (.cells #[.int .u8 84, .int .u8 77, .int .u8 66, .int .u8 49] BYTT (4, 5))).alloc o).cell? ⟨W.heap.size, j, none⟩ = some (.int .u8 (([84, 77, 66, 49] : List Int).getD j 0))) := fun o j hj => by
    rw [(bcell (b_alloc (Below.refl (W.alloc (.cells #[.int .u8 84, .int .u8 77, .int .u8 66, .int .u8 49] BYTT (4, 5))).heap.size _) o)).1 _ _ (by simp)]
    have e : (W.alloc (.cells #[.int .u8 84, .int .u8 77, .int .u8 66, .int .u8 49] BYTT (4, 5))).heap[W.heap.size]? = some (.cells #[.int .u8 84, .int .u8 77, .int .u8 66, .int .u8 49] BYTT (4, 5)) := (MapKept.heap_alloc W _).1
    rw [cell_of_row _ _ _ _ _ _ e]
    rcases (show j = 0 ∨ j = 1 ∨ j = 2 ∨ j = 3 by omega) with rfl | rfl | rfl | rfl <;> rfl
  have kc := fun (w : World) (C : Array Value) (n c : Nat) => Lib.run_convert_bytes_const (P := Try.prog) w 37 5 C n c Try.underlying37 Try.underlying5
  go_upto_region 4 with (at_builtin; (refine appendB_grows rfl _ _ rfl ⟨W.heap.size, 0, none⟩ 4 4 [84, 77, 66, 49] rfl rfl ?k3 _ [0] rfl (read_oneB2 ?k0) (by decide) (by decide) (by decide) ?_); (case k0 => simp); (case k3 => (intro j hj; rw [Addr.add_lit, Nat.zero_add]; exact HMK.out _ j hj)); intro v2 w2 own2 hb2; have own2 := ownB_mono (B' := W.heap.size) own2 (by simp; omega); have hb2 := b_call (b_alloc (b_alloc (Below.refl W.heap.size W) _) _) hb2)
  clear kc
  have own2 : OwnB w2 W.heap.size v2 (headP false) := own2
  obtain ⟨g, cap, hv, hgW, hgl, _, _, hcell, hfz⟩ := ownB_form own2 (by decide)
  have e5 : (headP false).length = 5 := rfl
  rw [e5] at hv
  subst hv
  have c4 : w2.cell? ⟨g, 4, none⟩ = some (.int .u8 0) := by have := hcell 4 (by decide); rw [this]; rfl
  have f4 := hfz 4
  have HO2 := Lib.hid own2
  have HB2 := Lib.hid hb2
  have BX2 := blk_below BWH.out hb2
  clear own2 hb2 hcell hfz e5 c0 c1 c2 c3 cf
  obtain ⟨c0, c1, c2, c3, cf⟩ := blk4 BX2
  clear BX2
  go_upto_if 19 with fail
  go_cut [4] (fun v wx => OwnB wx W.heap.size v (headP u) ∧ Below W.heap.size W wx)
  case first =>
    cases u
    · go_wp2_with fail
      go_meet
      case rel => exact ⟨HO2.out, HB2.out⟩
    · go_wp2_with fail
      go_meet
      case rel => exact ⟨ownB_set HO2.out rfl 4 1, b_set HB2.out hgW _⟩
  case rest =>
    obtain ⟨own3, hb3⟩ := hcut
    have BX3 := blk_below BWH.out hb3
    clear c0 c1 c2 c3 cf c4 f4
    obtain ⟨c0, c1, c2, c3, cf⟩ := blk4 BX3
    go_wp2_with fail
    have HGL : Hid (gl.length ≤ 8) := OK.out.g
    have hhl : (headP u).length = 5 := rfl
    have HHL := Lib.hid hhl
    clear hhl
    refine (plist_any W _ _ _ (headP u) gl own3 hb3 HGW.out (by have := HGL.out; have := HHL.out; omega)).mono ?_
    rintro e w5 ⟨v5, rfl, own5, hb5, _⟩
    have BX5 := blk_below BWH.out hb5
    have HX5 : Hid ((headP u ++ lstB gl).length ≤ 14) := by show _ ≤ _; have := HGL.out; have := HHL.out; rw [List.length_append, lstB_length]; omega
    have hw5 := hb5.size
    clear c0 c1 c2 c3 cf own3 hb3
    obtain ⟨c0, c1, c2, c3, cf⟩ := blk4 BX5
    go_upto_region 8 with (at_builtin; (refine appendB rfl _ _ rfl W.heap.size _ _ rfl (ownB_alloc own5 _) _ [m % 256, (L.length : Int) % 256] rfl (read_twoB _ _ _) ?c3 ?c4 ?_); (case c3 => (have := HX5.out; simp only [List.length_cons, List.length_nil]; omega)); (case c4 => (simp only [World.size_alloc]; omega)); intro v6 w6 own6 hg6; have hb6 := b_ownB (b_alloc hb5 _) (ownB_alloc own5 _) hg6; clear hg6)
    have BX6 := blk_below BWH.out hb6
    have HO6 := Lib.hid own6
    have HB6 := Lib.hid hb6
    have hw6 := hb6.size
    clear c0 c1 c2 c3 cf own5 hb5 BX5 own6 hb6
    obtain ⟨c0, c1, c2, c3, cf⟩ := blk4 BX6
    clear BX6
    obtain ⟨HD, hHD⟩ : ∃ HD, HD = headP u ++ lstB gl ++ [m % 256, (L.length : Int) % 256] := ⟨_, rfl⟩
    rw [← hHD] at HO6
    have HHD : Hid (HD = headP u ++ lstB gl ++ [m % 256, (L.length : Int) % 256] ∧ HD.length ≤ 16) := ⟨hHD, by have := HX5.out; rw [hHD, List.length_append]; simp only [List.length_cons, List.length_nil]; omega⟩
    clear hHD HX5
    go_wp2_with fail
    go_loopw [4, 39] (fun v i wr => ∃ k : Nat, k ≤ L.length ∧ i = .int .i64 k ∧ Hid (OwnB wr W.heap.size v (HD ++ (fs.take k).flatMap bytF)) ∧ Hid (Below W.heap.size W wr)) (fun _ i _ => L.length - (intOf i).toNat)
    case atStart => exact ⟨0, Nat.zero_le _, rfl, by have e := HO6.out; show OwnB _ _ _ (HD ++ []); rw [List.append_nil]; exact e, HB6.out⟩
    case round =>
      obtain ⟨k, hk, rfl, ho, hb⟩ := hrel
      have k0 : (0 : Int) ≤ k := by omega
      by_cases hlt2 : k < L.length
      · obtain ⟨bl, off, cp, e1, r1, r2, hbl, r4⟩ := readR_pos HLW.out (by omega)
        cases e1
        have k1 : (k : Int) < L.length := by omega
        have hc := fn_cells r4 k hlt2
        rw [← (bcell hb.out).1 _ _ hbl, ← (bcell hb.out).1 _ _ hbl, ← (bcell hb.out).1 _ _ hbl, ← (bcell hb.out).1 _ _ hbl] at hc
        have kf : k < fs.length := by rw [← HFL.out]; exact hlt2
        have DF := Lib.hid (allF_at HAW.out k hlt2 kf)
        have OF := Lib.hid (OK.out.f _ (List.getElem_mem kf))
        have GF := Lib.hid (GD.out _ (List.getElem_mem kf))
        have HN := Lib.hid (flat_snoc (f := bytF) kf)
        have HLN : Hid (((fs.take k).flatMap bytF).length ≤ 20288) := fs_len k OK.out.f2 OK.out.f
        generalize fs[k] = f at *
        generalize L[k] = x at *
        obtain ⟨⟨pa, pn, pc⟩, ⟨la, ln, lc⟩, r, ⟨ca, cn, cc⟩⟩ := x
        obtain ⟨ps, ls, r', code⟩ := f
        simp only at hc
        obtain ⟨d0, d1, d2, d3⟩ := hc
        have er : r = r' := DF.out.r
        subst er
        have dc : ReadR inE W (.slice ca cn cc) code := DF.out.c
        obtain ⟨hc1, hc2, hc3⟩ := slr_cap dc
        subst hc3
        have hcm := cap_le hc2
        have DP : ReadI W (.slice pa pn pc) ps := DF.out.p
        have DL : ReadI W (.slice la ln lc) ls := DF.out.l
        have DC := Lib.hid dc
        clear r4 dc hc2 c0 c1 c2 c3 cf
        have HLE : Hid ((HD ++ (fs.take k).flatMap bytF).length ≤ 20304) := by show _ ≤ _; have := HHD.out.2; have := HLN.out; rw [List.length_append]; omega
        obtain ⟨X, hX⟩ : ∃ X, X = HD ++ (fs.take k).flatMap bytF := ⟨_, rfl⟩
        rw [← hX] at HLE ho
        have HX := Lib.hid hX
        clear hX
        go_upto_region 11 with fail
        refine wp_named ?_
        intro wf hwf
        have BF : Blk wf wr.heap.size [.slice pa pn pc, .slice la ln lc, .int .i64 r, .slice ca code.length cc] := by rw [hwf]; exact blk_new _ _ _
        have TF : tyB wf wr.heap.size = some PFUNT := by rw [hwf]; exact tyB_new _ _ _
        have ownf : OwnB wf W.heap.size u4 X := by rw [hwf]; exact ownB_alloc ho.out _
        have hbf : Below W.heap.size W wf := by rw [hwf]; exact b_alloc hb.out _
        clear hwf d0 d1 d2 d3
        have HBF := Lib.hid BF
        obtain ⟨d0, d1, d2, d3, df⟩ := blk4 BF
        have HS : Hid (∀ w', KeepB wf w' → w'.cell? ⟨wr.heap.size, 0, none⟩ = some (.slice pa pn pc) ∧ w'.cell? ⟨wr.heap.size, 1, none⟩ = some (.slice la ln lc)) := Lib.hid (fun w' hk => by
          obtain ⟨y0, y1, _⟩ := blk4 (keepB_blk HBF.out TF (by decide) hk); exact ⟨y0, y1⟩)
        have ownd : OwnB wf.drew W.heap.size u4 X := ownB_drew ownf
        have hbd : Below W.heap.size W wf.drew := b_drew hbf
        have hkd : KeepB wf wf.drew := keepB_drew (keepB_refl _)
        clear BF ownf hbf
        go_cut [4] (fun v wx => Hid (OwnB wx W.heap.size v (X ++ lstB ps ++ lstB ls)) ∧ Hid (Below W.heap.size W wx) ∧ Hid (KeepB wf wx))
        case first =>
          go_region_held3 (fun w' => w'.cell? ⟨wr.heap.size, 0, none⟩ = some (.slice pa pn pc) ∧ w'.cell? ⟨wr.heap.size, 1, none⟩ = some (.slice la ln lc))
            (exact HS.out _ (by assumption))
            (first | (go_at_call 47; refine (plist_any W _ _ _ _ _ (by assumption) (by assumption) (by assumption) (by first | (have := HLE.out; have : ps.length ≤ 8 := OF.out.p; omega) | (have := HLE.out; have : ps.length ≤ 8 := OF.out.p; have : ls.length ≤ 8 := OF.out.l; rw [List.length_append, lstB_length]; omega))).mono ?_; rintro e w7 ⟨v7, rfl, own7, hb7, hk7⟩; have hk7 := keepB_trans (a := wf) (by assumption) hk7))
          all_goals
            go_wp2_with fail
            go_meet
            case rel => exact ⟨own7, hb7, hk7⟩
        case rest =>
        obtain ⟨HO10, HB10, HK10⟩ := hcut
        have own10 := HO10.out
        have hb10 := HB10.out
        have KF10 := HK10.out
        have HLE10 : Hid ((X ++ lstB ps ++ lstB ls).length ≤ 20330) := by show _ ≤ _; have := HLE.out; have : ps.length ≤ 8 := OF.out.p; have : ls.length ≤ 8 := OF.out.l; rw [List.length_append, List.length_append, lstB_length, lstB_length]; omega
        clear HO10 HB10 HK10 d0 d1 d2 d3 df ownd hbd hkd
        have BF10 := keepB_blk HBF.out TF (by decide) KF10
        obtain ⟨d0, d1, d2, d3, df⟩ := blk4 BF10
        have hw10 := hb10.size
        go_upto_region 13 with (at_builtin; (refine appendB rfl _ _ rfl W.heap.size _ _ rfl (ownB_alloc own10 _) _ [r % 256, (code.length : Int) % 256] rfl (read_twoB _ _ _) ?c9 ?c10 ?_); (case c9 => (have := HLE10.out; simp only [List.length_cons, List.length_nil]; omega)); (case c10 => (simp only [World.size_alloc]; omega)); intro v11 w11 own11 hg11; have hb11 := b_ownB (b_alloc hb10 _) (ownB_alloc own10 _) hg11; have KF11 := keepB_trans (keepB_alloc KF10 _) (keepB_own (ownB_alloc own10 _) hg11); clear hg11)
        obtain ⟨Y, hY⟩ : ∃ Y, Y = X ++ lstB ps ++ lstB ls ++ [r % 256, (code.length : Int) % 256] := ⟨_, rfl⟩
        rw [← hY] at own11
        have HY : Hid (Y = X ++ lstB ps ++ lstB ls ++ [r % 256, (code.length : Int) % 256] ∧ Y.length ≤ 20332) := ⟨hY, by have := HLE10.out; rw [hY, List.length_append]; simp only [List.length_cons, List.length_nil]; omega⟩
        have BF11 := keepB_blk HBF.out TF (by decide) KF11
        clear hY own10 hb10 KF10 d0 d1 d2 d3 df BF10
        obtain ⟨d0, d1, d2, d3, df⟩ := blk4 BF11
        have HO11 := Lib.hid own11
        have HB11 := Lib.hid hb11
        have HKF := Lib.hid KF11
        clear own11 hb11 KF11 BF11 ho hb
        obtain ⟨W1, hW1⟩ : ∃ W1, W1 = wr := ⟨_, rfl⟩
        subst hW1
        go_wp2_with fail
        go_loopw [4, 63] (fun v i wz => ∃ j : Nat, j ≤ code.length ∧ i = .int .i64 j ∧ Hid (OwnB wz W.heap.size v (Y ++ (code.take j).flatMap bytIn)) ∧ Hid (Below W.heap.size W wz)) (fun _ i _ => code.length - (intOf i).toNat)
        case atStart => exact ⟨0, Nat.zero_le _, rfl, by have e := HO11.out; show OwnB _ _ _ (Y ++ []); rw [List.append_nil]; exact e, HB11.out⟩
        case round =>
          obtain ⟨j, hj, rfl, ho, hb⟩ := hrel
          have j0 : (0 : Int) ≤ j := by omega
          by_cases hlt3 : j < code.length
          · obtain ⟨bl2, off2, cp2, e1, r12, r22, hbl2, r42⟩ := readR_pos DC.out (by omega)
            cases e1
            have j1 : (j : Int) < code.length := by omega
            have hcs := in_cells r42 j hlt3
            rw [← (bcell hb.out).1 _ _ hbl2, ← (bcell hb.out).1 _ _ hbl2, ← (bcell hb.out).1 _ _ hbl2, ← (bcell hb.out).1 _ _ hbl2] at hcs
            have HNJ := Lib.hid (flat_snoc (f := bytIn) hlt3)
            have HLJ := Lib.hid (code_len j OF.out.c2)
            have HM := Lib.hid (OF.out.i _ (List.getElem_mem hlt3))
            have HG := Lib.hid (GF.out _ (List.getElem_mem hlt3))
            have HL13 := Lib.hid (bytIn_le code[j])
            generalize code[j] = ii at *
            obtain ⟨iop, ix, ia, ib⟩ := ii
            simp only at hcs
            obtain ⟨i0, i1, i2, i3⟩ := hcs
            clear r42 d0 d1 d2 d3 df
            go_wp2_with fail
            refine (ibytes_some iop ix ia ib _ HM.out HG.out.1 HG.out.2).mono ?_
            rintro e w12 ⟨v12, rfl, own12, hb12⟩
            have own13 := ownB_below (ownB_alloc ho.out (.cells #[.int .i64 iop, .int .u64 ix, .int .i64 ia, .int .i64 ib] 32)) hb12
            have hb13 := b_call (b_alloc hb.out _) hb12
            have hw13 := hb13.size
            go_wp2_with (at_builtin; (refine appendB rfl _ _ rfl W.heap.size _ _ rfl own13 _ (bytIn ⟨iop, ix, ia, ib⟩) rfl (ownB_read own12) ?c11 ?c12 ?_); (case c11 => (have := HY.out.2; have := HLJ.out; have := HL13.out; rw [List.length_append]; omega)); (case c12 => exact hw13); intro v14 w14 own14 hg14; have hb14 := b_ownB hb13 own13 hg14; clear hg14)
            have HO14 := Lib.hid own14
            have HB14 := Lib.hid hb14
            clear own12 hb12 own13 hb13 own14 hb14
            go_roundw
            case rel => exact ⟨j + 1, by omega, by first | rfl | trivial | go_num, by rw [HNJ.out, ← List.append_assoc]; exact HO14.out, HB14.out⟩
            case measure => simp [intOf]; omega
          · have hall : (code.take j).flatMap bytIn = code.flatMap bytIn := by rw [List.take_of_length_le (by omega)]
            have HALL := Lib.hid hall
            clear hall
            go_wp2_with fail
            go_roundw
            case rel => exact ⟨k + 1, by omega, by first | rfl | trivial | go_num, by
              have e := ho.out
              rw [HALL.out, HY.out.1, HX.out] at e
              have eb : bytF ⟨ps, ls, r, code⟩ = lstB ps ++ lstB ls ++ [r % 256, (code.length : Int) % 256] ++ code.flatMap bytIn := rfl
              show OwnB _ _ _ _
              rw [HN.out, eb]
              simp only [← List.append_assoc]
              exact e, hb.out⟩
            case measure => simp [intOf]; omega
      · have hall : (fs.take k).flatMap bytF = fs.flatMap bytF := by rw [List.take_of_length_le (by have := HFL.out; omega)]
        have HALL := Lib.hid hall
        clear hall
        go_wp2_with fail
        go_ret2
        exact ⟨_, rfl, ownB_mono (by
          have e := ho.out
          rw [HALL.out, HHD.out.1] at e
          have eb : bytP ⟨u, gl, m, fs⟩ = headP u ++ lstB gl ++ [m % 256, (L.length : Int) % 256] ++ fs.flatMap bytF := by unfold bytP; rw [HFL.out]
          rw [eb]; exact e) (by have := HWS.out; omega), by
          exact HBW.out.trans (hb.out.mono (by have := HWS.out; omega))⟩
end Go.Proofs.Ytdhkemnebppkhaa
