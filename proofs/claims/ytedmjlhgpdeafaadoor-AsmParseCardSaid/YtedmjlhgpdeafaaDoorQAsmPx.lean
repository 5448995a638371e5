/- AsmParse, walked: whatever the program, the text and the choices, the answer is true. Conditions: the arguments read as lists, the program's instructions' numbers are of their kinds; where the library's MaxLen stands is known. -/
import Derived.Test.YtedmjlhgpdeafaaDoorQAsmRp
import Derived.Test.YtedmjlhgpdeafaaDoorQAsmSh
import Derived.Test.YtedmjlhgpdeafaaDoorQAsmY
import Derived.Test.YtedmjlhgpdeafaaDoorQPlain25
import Derived.Test.YtedmjlhgpdeafaaDoorQList25
import Derived.Test.YtedmjlhgpdeafaaDoorQEqN25
import Derived.Deep.DeepCutAuto
namespace Go.Proofs.YtedmjlhgpdeafaaDoor
open Go.RowKit
set_option linter.unusedVariables false
set_option linter.unusedSimpArgs false
attribute [local go_sem] over_cell over_frozen
/-- A row of bytes that may be written. -/
structure ByAt (w : World) (g cap : Nat) (L : List UInt8) : Prop where
  lt : g < w.heap.size
  cl : ∀ i (h : i < L.length), w.cell? ⟨g, i, none⟩ = some (.int .u8 (L[i].toNat : Int))
  fr : ∀ i, i < L.length → w.frozen? ⟨g, i, none⟩ = false
  cp : L.length ≤ cap
  mx : cap ≤ maxLen
theorem by_set {w : World} {g cap : Nat} {L : List UInt8} (h : ByAt w g cap L) (j : Nat) {y : Int} (hy : 0 ≤ y ∧ y < 256) : ByAt (w.setCell ⟨g, j, none⟩ (.int .u8 y)) g cap (L.set j (UInt8.ofNat y.toNat)) := by
  refine ⟨by simpa using h.lt, fun i hi => ?_, fun i hi => ?_, by rw [List.length_set]; exact h.cp, h.mx⟩
  · have hi' : i < L.length := by simpa using hi
    by_cases e : i = j
    · subst e
      rw [World.cell?_setCell_same _ _ _ (h.cl i hi')]
      have e2 : ((UInt8.ofNat y.toNat).toNat : Int) = y := by rw [UInt8.toNat_ofNat']; omega
      have e3 : (L.set i (UInt8.ofNat y.toNat))[i]'hi = UInt8.ofNat y.toNat := List.getElem_set_self _
      rw [e3, e2]
    · rw [World.cell?_setCell_other _ _ _ _ (fun q => e (by cases q; rfl)), h.cl i hi', List.getElem_set_ne (fun q => e q.symm)]
  · rw [World.frozen?_setCell]; exact h.fr i (by simpa using hi)
theorem by_back {w : World} {g cap n : Nat} {L : List UInt8} (h : ByAt w g cap L) (hn : n ≤ L.length) : (convert 51 9 (.slice (some ⟨g, 0, none⟩) n cap)).run Tryd.prog w = .ok (.string ⟨(L.take n).toArray⟩) w := by
  have q := run_convert_bytes_back (P := Tryd.prog) w 51 9 5 ⟨g, 0, none⟩ cap (L.take n) under_byts Tryd.underlying5 Tryd.underlying9 (fun j hj => by
    rw [List.length_take] at hj
    rw [Addr.add_lit, Nat.zero_add, h.cl j (by omega), List.getElem_take])
  rw [List.length_take, Nat.min_eq_left hn] at q
  exact q
theorem by_raw {W : World} {g cap lo hi : Nat} {T : List UInt8} {C : Array Value} {E : TypeId} (h : W.heap[g]? = some (.cells C E (lo, hi))) (hC : ∀ i (h : i < T.length), C[i]? = some (.int .u8 (T[i].toNat : Int))) (hlo : T.length ≤ lo) (h1 : T.length ≤ cap) (h2 : cap ≤ maxLen) : ByAt W g cap T := by
  refine ⟨(Array.getElem?_eq_some_iff.1 h).1, fun i hi => ?_, fun i hi => ?_, h1, h2⟩
  · unfold World.cell?
    simp only [h]
    simpa using hC i hi
  · unfold World.frozen?
    simp only [h]
    simp
    omega
theorem by_conv (w : World) (T : List UInt8) (hT : T.length ≤ 1000000) : ∃ cap W, (convert 9 51 (.string ⟨T.toArray⟩)).run Tryd.prog w = .ok (.slice (some ⟨w.heap.size, 0, none⟩) T.length cap) W ∧ ByAt W w.heap.size cap T ∧ Below w.heap.size w W := by
  have q := run_bytes_of_string (P := Tryd.prog) w 9 51 5 ⟨T.toArray⟩ Tryd.underlying9 under_byts Tryd.underlying5
  have hs : (⟨T.toArray⟩ : ByteArray).size = T.length := rfl
  rw [hs] at q
  have hge := grownCap_ge w T.length 0 5
  have hle := grownCap_le_maxLen w T.length 0 5 (by unfold maxLen; omega)
  generalize grownCap w T.length 0 5 = c at *
  refine ⟨c, _, q, by_raw (MapKept.heap_alloc w.drew _).1 (fun i hi => bytesRow_at ⟨T.toArray⟩ c i (by show i < T.toArray.size; simpa using hi)) ?_ hge hle, b_alloc (b_drew (Below.refl _ _)) _⟩
  show T.length ≤ (bytesRow ⟨T.toArray⟩ c).size
  unfold bytesRow
  simp
theorem ext_take (l : List UInt8) (n : Nat) : (⟨l.toArray⟩ : ByteArray).extract 0 n = ⟨(l.take n).toArray⟩ := by
  apply ByteArray.ext
  rw [ByteArray.data_extract]
  show l.toArray.extract 0 n = _
  rw [List.extract_toArray]
  congr 1
theorem small_P0 : SmallP P0 := ⟨by decide, by decide, fun f hf => by cases hf⟩
theorem read_P0 (w : World) : ReadP w pz P0 := ⟨rfl, readI_nil _, rfl, [], readR_nil _, trivial⟩
set_option maxRecDepth 100000 in
set_option maxHeartbeats 16000000 in
theorem asmParse_any (p : PrV) (P : PrM) (raw : List UInt8) (own : Bool) (atv : Value) (ats : List Int) (vv : Value) (vs : List Int) (cut : Int) (w : World) (h : ReadP w p P) (hg : GoodP P) (hat : ReadI w atv ats) (hvv : ReadB w vv vs) (hvb : IsBytes vs) (hm : MaxAt w) : Calls Tryd.prog 5 #[aggP p, strV raw, .bool own, atv, vv, .int .i64 cut] w fun e w' => e = .returned (.bool true) ∧ Below w.heap.size w w' := by
  obtain ⟨u, ⟨ga, gn, gc⟩, m, ⟨fa, fn, fc⟩⟩ := p
  obtain ⟨ata, atc, rfl⟩ := readI_len hat
  obtain ⟨an, han⟩ : ∃ an, an = ats.length := ⟨_, rfl⟩
  rw [← han] at hat ⊢
  have hac := sli_cap hat
  have hac1 := hac.1
  have hac2 := cap_le hac.2.1
  obtain ⟨va, vc, e0, hv1, hv2, _, _⟩ := id hvv
  subst e0
  obtain ⟨vn, hvn⟩ : ∃ vn, vn = vs.length := ⟨_, rfl⟩
  rw [← hvn] at hvv hv1 ⊢
  have hv3 := cap_le hv2
  have HR := Lib.hid h
  have HAT := Lib.hid hat
  have HVV := Lib.hid hvv
  have HVB := Lib.hid hvb
  have HAN := Lib.hid han
  have HVN := Lib.hid hvn
  have HM := Lib.hid hm
  have HSM := Lib.hid (short_small P)
  have HGD := Lib.hid (good_cut hg)
  clear h hm hg hat hvv hvb han hvn hac hv2
  unfold aggP Sl.v strV
  simp only
  generalize hC : shortP P = C at *
  go_enter Tryd.func5, Tryd.ntmps5
  go_upto_region 1 with fail
  refine wp_named ?_
  intro W hW
  have HX : Hid (Blk W w.heap.size [.bool u, .slice ga gn gc, .int .i64 m, .slice fa fn fc]) := Lib.hid (by rw [hW]; exact blk_new _ _ _)
  have HBW : Hid (Below w.heap.size w W) := Lib.hid (by rw [hW]; exact b_alloc (Below.refl _ _) _)
  clear hW
  obtain ⟨x0, x1, x2, x3, xf⟩ := blk4 HX.out
  have xz := HX.out.1
  have HC := Lib.hid (short_any ⟨u, ⟨ga, gn, gc⟩, m, ⟨fa, fn, fc⟩⟩ P w W HR.out HBW.out)
  rw [hC] at HC
  clear hC
  unfold aggP Sl.v at HC
  simp only at HC
  go_wp2_with fail
  refine (HC.out).mono ?_
  rintro e w1 ⟨q, rfl, hq, hb1⟩
  obtain ⟨qu, ⟨qa, qn, qc⟩, qm, ⟨ra, rn, rc⟩⟩ := q
  have HB1 := Lib.hid hb1
  have HQ := Lib.hid hq
  clear hq hb1 HC x0 x1 x2 x3 xf xz
  obtain ⟨x0, x1, x2, x3, xf⟩ := blk4 (blk_below HX.out HB1.out)
  have xz := (blk_below HX.out HB1.out).1
  simp only
  go_upto_region 2 with fail
  refine wp_named ?_
  intro W2 hW2
  have HX2 : Hid (Blk W2 w.heap.size [.bool qu, .slice qa qn qc, .int .i64 qm, .slice ra rn rc]) := Lib.hid (by rw [hW2]; exact blk_set (blk_set (blk_set (blk_set (blk_below HX.out HB1.out) 0 _) 1 _) 2 _) 3 _)
  have HB2 : Hid (Below w.heap.size w W2) := Lib.hid (by rw [hW2]; exact b_set (b_set (b_set (b_set (b_call HBW.out HB1.out) (Nat.le_refl _) _) (Nat.le_refl _) _) (Nat.le_refl _) _) (Nat.le_refl _) _)
  have HP2 : Hid (ReadP W2 ⟨qu, ⟨qa, qn, qc⟩, qm, ⟨ra, rn, rc⟩⟩ C) := Lib.hid (shortMade_read (shortMade_grown HQ.out (j := w.heap.size) (by rw [hW2]; exact gb_set (gb_set (gb_set (gb_set (gb_refl w1 (some w.heap.size)) 0 none _) 1 none _) 2 none _) 3 none _) (by have := HX.out.1; omega)) HB2.out)
  clear hW2 x0 x1 x2 x3 xf xz HQ HX HB1 HBW
  have HY : Hid (∀ w', Below W2.heap.size W2 w' → (w'.cell? ⟨w.heap.size, 0, none⟩ = some (.bool qu) ∧ w'.cell? ⟨w.heap.size, 1, none⟩ = some (.slice qa qn qc) ∧ w'.cell? ⟨w.heap.size, 2, none⟩ = some (.int .i64 qm) ∧ w'.cell? ⟨w.heap.size, 3, none⟩ = some (.slice ra rn rc)) ∧ w.heap.size < w'.heap.size) := Lib.hid (fun w' hb => by
    obtain ⟨y0, y1, y2, y3, _⟩ := blk4 (blk_below HX2.out hb)
    exact ⟨⟨y0, y1, y2, y3⟩, Nat.lt_of_lt_of_le HX2.out.1 hb.size⟩)
  go_upto_if 27 with fail
  go_cut [1] (fun s wc => wc = W2 ∧ ∃ rw : List UInt8, s = .string ⟨rw.toArray⟩ ∧ rw.length ≤ 300)
  case first =>
    by_cases hr : 300 < raw.length
    · have hr1 : (300 : Int) < raw.length := by omega
      have HR3 := Lib.hid hr
      clear hr
      go_wp2_with fail
      go_meet
      case rel => exact ⟨rfl, raw.take 300, congrArg Value.string (ext_take raw 300), by rw [List.length_take]; omega⟩
    · have hr1 : (raw.length : Int) ≤ 300 := by omega
      have HR3 := Lib.hid hr
      clear hr
      go_wp2_with fail
      go_meet
      case rel => exact ⟨rfl, raw, rfl, by have := HR3.out; omega⟩
  case rest =>
  obtain ⟨hwc, rw, rfl, hrl⟩ := hcut
  replace hwc := hwc.symm
  subst hwc
  have HMAY := Lib.hid (rmay25_any ⟨qu, ⟨qa, qn, qc⟩, qm, ⟨ra, rn, rc⟩⟩ C W2 HP2.out)
  unfold aggP Sl.v at HMAY
  simp only at HMAY
  go_upto_region 5 with fail
  go_cut [35] (fun s wc => ∃ bb : Bool, s = .bool bb ∧ Hid (bb = true → mayP C = true) ∧ Hid (Below W2.heap.size W2 wc))
  case first =>
    cases own with
    | false =>
      go_wp2_with fail
      go_meet
      case rel => exact ⟨false, rfl, Lib.hid (fun q => by cases q), Lib.hid (Below.refl _ _)⟩
    | true =>
      obtain ⟨⟨x0, x1, x2, x3⟩, xz⟩ := HY.out W2 (Below.refl _ _)
      go_wp2_with fail
      refine (HMAY.out).mono ?_
      rintro e w3 ⟨rfl, hb3⟩
      have HB3 := Lib.hid hb3
      clear hb3 x0 x1 x2 x3 xz
      go_wp2_with fail
      go_meet
      case rel => exact ⟨mayP C, rfl, Lib.hid id, HB3⟩
  case rest =>
  obtain ⟨bb, rfl, HBB, HB3⟩ := hcut
  obtain ⟨w3, hw3⟩ : ∃ z, z = wc := ⟨_, rfl⟩
  subst hw3
  clear HMAY
  go_upto_if 35 with fail
  go_cut [13] (fun s wc => ∃ l : List UInt8, s = .string ⟨l.toArray⟩ ∧ l.length ≤ 20000 ∧ Hid (Below W2.heap.size W2 wc))
  case first =>
    cases bb with
    | false =>
      go_wp2_with fail
      go_meet
      case rel => exact ⟨rw, rfl, by omega, HB3⟩
    | true =>
      have hmay := HBB.out rfl
      have HPR := Lib.hid (rprint_any ⟨qu, ⟨qa, qn, qc⟩, qm, ⟨ra, rn, rc⟩⟩ C w3 (readP_below HP2.out HB3.out) hmay HGD.out)
      have hpl := plen34 hmay HSM.out.2
      clear hmay
      generalize printL C = T at *
      unfold aggP Sl.v strV at HPR
      simp only at HPR
      obtain ⟨⟨x0, x1, x2, x3⟩, xz⟩ := HY.out w3 HB3.out
      go_wp2_with fail
      refine (HPR.out).mono ?_
      rintro e w5 ⟨rfl, hb5⟩
      have HB5 : Hid (Below W2.heap.size W2 w5) := Lib.hid (b_call HB3.out hb5)
      clear hb5 x0 x1 x2 x3 xz HPR
      obtain ⟨cb, W6, hcv, hby, hb6⟩ := by_conv w5 T (by omega)
      obtain ⟨N, hN⟩ : ∃ N, N = T.length := ⟨_, rfl⟩
      rw [← hN] at hcv hpl
      have HB6 : Hid (Below W2.heap.size W2 W6) := Lib.hid (b_call HB5.out hb6)
      have HBY : Hid (∃ L, L.length = N ∧ ByAt W6 w5.heap.size cb L) := Lib.hid ⟨T, hN.symm, hby⟩
      have HGB : Hid (W2.heap.size ≤ w5.heap.size) := Lib.hid HB5.out.size
      have hcb1 : N ≤ cb := by rw [hN]; exact hby.cp
      have hcb2 := cap_le hby.mx
      clear hN hby hb6
      have hN0 : (0 : Int) ≤ N := by omega
      have hN1 : (N : Int) ≤ 12220 := by omega
      go_upto_region 7 with fail
      clear hcv
      go_wp2_with fail
      go_loopw [41] (fun i wr => ∃ k : Nat, k ≤ an ∧ i = .int .i64 k ∧ Hid (∃ L, L.length = N ∧ ByAt wr w5.heap.size cb L) ∧ Hid (Below W2.heap.size W2 wr)) (fun i _ => an - (intOf i).toNat)
      case atStart => exact ⟨0, Nat.zero_le _, rfl, HBY, HB6⟩
      case round =>
        clear HBY HB6
        obtain ⟨k, hk, rfl, HBY, HBR⟩ := hrel
        have hk0 : (0 : Int) ≤ k := by omega
        by_cases hlt : k < an
        · have HLT := Lib.hid hlt
          have hk1 : (k : Int) < an := by omega
          have hkc : (k : Int) < atc := by omega
          obtain ⟨ab, ao, acp, e1, r1, r2, r3, r4⟩ := readI_pos (readI_below HAT.out (b_call HB2.out HBR.out)) (by have := HAN.out; omega)
          injection e1 with e1 e2 e3
          clear e2
          subst e1 e3
          have ca := r4 k (by have := HAN.out; omega)
          generalize ats.getD k 0 = z at *
          clear r1 r2 r4 hlt
          by_cases q1 : k < 4
          · have q1' : (k : Int) < 4 := by omega
            by_cases q2 : k < vn
            · have q2' : (k : Int) < vn := by omega
              by_cases q3 : 0 ≤ z
              · by_cases q4 : z < N
                · obtain ⟨j, rfl⟩ := Int.eq_ofNat_of_zero_le q3
                  obtain ⟨vb, vo, vcp, e1, s1, s2, s3, s4⟩ := readB_pos (readB_below HVV.out (b_call HB2.out HBR.out)) (by have := HVN.out; omega)
                  injection e1 with e1 e2 e3
                  clear e2
                  subst e1 e3
                  have cv := s4 k (by have := HVN.out; omega)
                  have hyy : 0 ≤ vs.getD k 0 ∧ vs.getD k 0 < 256 := by
                    have hkv : k < vs.length := by have := HVN.out; omega
                    rw [List.getD_eq_getElem?_getD, List.getElem?_eq_getElem hkv]
                    exact HVB.out _ (List.getElem_mem hkv)
                  generalize vs.getD k 0 = y at *
                  obtain ⟨L, hL, hBL⟩ := HBY.out
                  have hjl : j < L.length := by omega
                  have cj := hBL.cl j hjl
                  have fj := hBL.fr j hjl
                  have gz := hBL.lt
                  have HNX : Hid (∃ L, L.length = N ∧ ByAt (wr.setCell ⟨w5.heap.size, j, none⟩ (.int .u8 y)) w5.heap.size cb L) := Lib.hid ⟨_, by rw [List.length_set]; exact hL, by_set hBL j hyy⟩
                  have HBX : Hid (Below W2.heap.size W2 (wr.setCell ⟨w5.heap.size, j, none⟩ (.int .u8 y))) := Lib.hid (b_set HBR.out (by exact HGB.out) _)
                  have hkv : (k : Int) < vc := by omega
                  have hjc : (j : Int) < cb := by omega
                  generalize L[j].toNat = cc at *
                  clear s1 s2 s4 hyy hL hBL q1 q2 HBY
                  go_wp2_with fail
                  go_roundw
                  case rel => exact ⟨k + 1, by have := HLT.out; omega, by first | rfl | go_num, HNX, HBX⟩
                  case measure => have := HLT.out; simp [intOf]; omega
                · have q4' : (N : Int) ≤ z := by omega
                  clear q1 q2 q4
                  go_wp2_with fail
                  go_roundw
                  case rel => exact ⟨k + 1, by have := HLT.out; omega, by first | rfl | go_num, HBY, HBR⟩
                  case measure => have := HLT.out; simp [intOf]; omega
              · have q3' : z < 0 := by omega
                clear q1 q2 q3
                go_wp2_with fail
                go_roundw
                case rel => exact ⟨k + 1, by have := HLT.out; omega, by first | rfl | go_num, HBY, HBR⟩
                case measure => have := HLT.out; simp [intOf]; omega
            · have q2' : (vn : Int) ≤ k := by omega
              clear q1 q2
              go_wp2_with fail
              go_roundw
              case rel => exact ⟨k + 1, by have := HLT.out; omega, by first | rfl | go_num, HBY, HBR⟩
              case measure => have := HLT.out; simp [intOf]; omega
          · have q1' : (4 : Int) ≤ k := by omega
            clear q1
            go_wp2_with fail
            go_roundw
            case rel => exact ⟨k + 1, by have := HLT.out; omega, by first | rfl | go_num, HBY, HBR⟩
            case measure => have := HLT.out; simp [intOf]; omega
        · have hk1 : (an : Int) ≤ k := by omega
          clear hlt
          obtain ⟨L, hL, hBL⟩ := HBY.out
          by_cases q1 : 0 < cut ∧ cut ≤ (N : Int)
          · obtain ⟨n', hn'⟩ : ∃ n' : Nat, cut = (N : Int) - n' := ⟨((N : Int) - cut).toNat, by omega⟩
            subst hn'
            obtain ⟨q1a, q1b⟩ := q1
            have he : (N : Int) - ((N : Int) - n') = n' := by omega
            have hcvb := by_back hBL (n := n') (by omega)
            have hn1 : (n' : Int) ≤ cb := by omega
            have hn2 : (0 : Int) ≤ n' := by omega
            have hlb : (L.take n').length ≤ N := by rw [List.length_take]; omega
            generalize L.take n' = lb at *
            clear hL hBL HBY
            go_wp2_with fail
            go_meet
            case rel => exact ⟨lb ++ rw, congrArg Value.string (ba_append lb rw), by rw [List.length_append]; omega, HBR⟩
          · have hcvb := by_back hBL (n := N) (by omega)
            have hlb : (L.take N).length ≤ N := by rw [List.length_take]; omega
            generalize L.take N = lb at *
            clear hL hBL HBY
            by_cases q2 : 0 < cut
            · have q3 : (N : Int) < cut := by omega
              clear q1
              go_wp2_with fail
              go_meet
              case rel => exact ⟨lb ++ rw, congrArg Value.string (ba_append lb rw), by rw [List.length_append]; omega, HBR⟩
            · have q3 : cut ≤ 0 := by omega
              clear q1 q2
              go_wp2_with fail
              go_meet
              case rel => exact ⟨lb ++ rw, congrArg Value.string (ba_append lb rw), by rw [List.length_append]; omega, HBR⟩
  case rest =>
  obtain ⟨l, rfl, hll, HB7⟩ := hcut
  obtain ⟨w7, hw7⟩ : ∃ z, z = wc := ⟨_, rfl⟩
  subst hw7
  clear HB3 HBB HAT HVV
  have HPA := Lib.hid (aparse_any l w7 (by omega) (max_below HM.out (b_call HB2.out HB7.out)))
  have HRP := Lib.hid (fun w' => rparse_any l w' (by omega))
  unfold strV at HPA HRP
  cases hpl : parseL l with
  | bad k =>
    rw [hpl] at HPA HRP
    clear hpl
    unfold ParseEnd at HPA
    unfold RParseEnd at HRP
    simp only at HPA HRP
    go_wp2_with fail
    refine (HPA.out).mono ?_
    rintro e w8 ⟨hb8, rfl⟩
    have HB8 : Hid (Below W2.heap.size W2 w8) := Lib.hid (b_call HB7.out hb8)
    clear hb8
    unfold aggP pz Sl.v
    simp only
    go_upto_region 17 with fail
    refine wp_named ?_
    intro W9 hW9
    have HX9 : Hid (Blk W9 w8.heap.size [.bool false, .slice none 0 0, .int .i64 0, .slice none 0 0]) := Lib.hid (by rw [hW9]; exact blk_new _ _ _)
    have HB9 : Hid (Below W2.heap.size W2 W9) := Lib.hid (by rw [hW9]; exact b_alloc HB8.out _)
    clear hW9
    go_wp2_with fail
    refine (HRP.out _).mono ?_
    rintro e w10 ⟨hb10, q, rfl⟩
    obtain ⟨zu, ⟨za, zn, zc⟩, zm, ⟨ya, yn, yc⟩⟩ := q
    have HX10 := Lib.hid (blk_below HX9.out hb10)
    have HB10 : Hid (Below W2.heap.size W2 w10) := Lib.hid (b_call HB9.out hb10)
    clear hb10
    unfold aggP Sl.v
    simp only
    go_upto_region 18 with fail
    refine wp_named ?_
    intro W11 hW11
    have HX11 : Hid (Blk W11 w8.heap.size [.bool false, .slice none 0 0, .int .i64 0, .slice none 0 0]) := Lib.hid (by rw [hW11]; exact blk_alloc HX10.out _)
    have HB11 : Hid (Below W2.heap.size W2 W11) := Lib.hid (by rw [hW11]; exact b_alloc HB10.out _)
    clear hW11
    obtain ⟨x0, x1, x2, x3, xf⟩ := blk4 HX11.out
    have xz := HX11.out.1
    have HSA := Lib.hid (fun w' => psame_any pz pz P0 P0 w' (read_P0 w') (read_P0 w') small_P0 small_P0)
    unfold aggP pz Sl.v at HSA
    simp only at HSA
    go_wp2_with fail
    refine (HSA.out _).mono ?_
    rintro e w12 ⟨b2, rfl, hbb, hb12⟩
    obtain rfl : b2 = true := hbb.2 rfl
    have HB12 : Hid (Below W2.heap.size W2 w12) := Lib.hid (b_call HB11.out hb12)
    clear hbb hb12 x0 x1 x2 x3 xf xz
    have HAW := Lib.hid (awake34 w12 (max_below HM.out (b_call HB2.out HB12.out)))
    go_wp2_with fail
    refine (HAW.out).mono ?_
    rintro e w13 ⟨rfl, hb13⟩
    have HB13 := Lib.hid (b_call HB2.out (b_call HB12.out hb13))
    clear hb13
    go_wp2_with fail
    go_ret
    exact ⟨rfl, HB13.out⟩
  | done P' =>
    obtain ⟨hmP, hgP⟩ := parse_good hpl
    have HMP := Lib.hid hmP
    have HGP := Lib.hid hgP
    rw [hpl] at HPA HRP
    clear hpl hmP hgP
    unfold ParseEnd at HPA
    unfold RParseEnd at HRP
    simp only at HPA HRP
    go_wp2_with fail
    refine (HPA.out).mono ?_
    rintro e w8 ⟨hb8, q1, rfl, hq1⟩
    obtain ⟨xu, ⟨xa, xn, xc⟩, xm, ⟨sa, sn, sc⟩⟩ := q1
    have HB8 : Hid (Below W2.heap.size W2 w8) := Lib.hid (b_call HB7.out hb8)
    have HQ1 := Lib.hid hq1
    clear hb8 hq1
    unfold aggP Sl.v
    simp only
    go_upto_region 17 with fail
    refine wp_named ?_
    intro W9 hW9
    have HX9 : Hid (Blk W9 w8.heap.size [.bool xu, .slice xa xn xc, .int .i64 xm, .slice sa sn sc]) := Lib.hid (by rw [hW9]; exact blk_new _ _ _)
    have HB89 : Hid (Below w8.heap.size w8 W9) := Lib.hid (by rw [hW9]; exact b_alloc (Below.refl _ _) _)
    clear hW9
    go_wp2_with fail
    refine (HRP.out _).mono ?_
    rintro e w10 ⟨hb10, q, rfl, hq⟩
    obtain ⟨zu, ⟨za, zn, zc⟩, zm, ⟨ya, yn, yc⟩⟩ := q
    have HX10 := Lib.hid (blk_below HX9.out hb10)
    have HB10 : Hid (Below w8.heap.size w8 w10) := Lib.hid (b_call HB89.out hb10)
    have HQ2 := Lib.hid hq
    clear hb10 hq
    unfold aggP Sl.v
    simp only
    go_upto_region 20 with fail
    refine wp_named ?_
    intro W11 hW11
    have HX11 : Hid (Blk W11 w8.heap.size [.bool xu, .slice xa xn xc, .int .i64 xm, .slice sa sn sc]) := Lib.hid (by rw [hW11]; exact blk_alloc HX10.out _)
    have HZ11 : Hid (Blk W11 w10.heap.size [.bool zu, .slice za zn zc, .int .i64 zm, .slice ya yn yc]) := Lib.hid (by rw [hW11]; exact blk_new _ _ _)
    have HB1011 : Hid (Below w10.heap.size w10 W11) := Lib.hid (by rw [hW11]; exact b_alloc (Below.refl _ _) _)
    have HB11 : Hid (Below W2.heap.size W2 W11) := Lib.hid (b_call HB8.out (b_call HB10.out HB1011.out))
    clear hW11
    have HS : Hid (∀ w', Below W11.heap.size W11 w' → (w'.cell? ⟨w8.heap.size, 0, none⟩ = some (.bool xu) ∧ w'.cell? ⟨w8.heap.size, 1, none⟩ = some (.slice xa xn xc) ∧ w'.cell? ⟨w8.heap.size, 2, none⟩ = some (.int .i64 xm) ∧ w'.cell? ⟨w8.heap.size, 3, none⟩ = some (.slice sa sn sc)) ∧ (w'.cell? ⟨w10.heap.size, 0, none⟩ = some (.bool zu) ∧ w'.cell? ⟨w10.heap.size, 1, none⟩ = some (.slice za zn zc) ∧ w'.cell? ⟨w10.heap.size, 2, none⟩ = some (.int .i64 zm) ∧ w'.cell? ⟨w10.heap.size, 3, none⟩ = some (.slice ya yn yc))) := Lib.hid (fun w' hb => by
      obtain ⟨y0, y1, y2, y3, _⟩ := blk4 (blk_below HX11.out hb)
      obtain ⟨v0, v1, v2, v3, _⟩ := blk4 (blk_below HZ11.out hb)
      exact ⟨⟨y0, y1, y2, y3⟩, v0, v1, v2, v3⟩)
    refine wp_region_held_drew (S := (fun w' => (w'.cell? ⟨w8.heap.size, 0, none⟩ = some (.bool xu) ∧ w'.cell? ⟨w8.heap.size, 1, none⟩ = some (.slice xa xn xc) ∧ w'.cell? ⟨w8.heap.size, 2, none⟩ = some (.int .i64 xm) ∧ w'.cell? ⟨w8.heap.size, 3, none⟩ = some (.slice sa sn sc)) ∧ (w'.cell? ⟨w10.heap.size, 0, none⟩ = some (.bool zu) ∧ w'.cell? ⟨w10.heap.size, 1, none⟩ = some (.slice za zn zc) ∧ w'.cell? ⟨w10.heap.size, 2, none⟩ = some (.int .i64 zm) ∧ w'.cell? ⟨w10.heap.size, 3, none⟩ = some (.slice ya yn yc)))) (by kernel_rfl) (HS.out _ (b_drew (Below.refl _ _))) (fun hHeld => ?_)
    refine atI 0 ?_
    iterate 8 (refine takeN (v := ?_) rfl (by rfl) ?_ hHeld ?_; rotate_left; (focus (intro w hSw; (try dsimp only at hSw); go_simp; try (with_reducible rfl))); (try simp only [Act.put, Nat.reduceAdd, List.getElem_toArray, List.getElem_cons_succ, List.getElem_cons_zero, List.setIfInBounds_toArray, List.set_cons_zero, List.set_cons_succ]))
    refine atIo ?_
    (refine wpAnyH_take (i := 9) (v := ?_) rfl (by kernel_rfl) (by kernel_rfl) (by kernel_rfl) (fun _ _ _ h => h) (Or.inl ⟨by rfl, ?_⟩) hHeld ?_; rotate_left; (focus (intro w hSw; (try dsimp only at hSw); go_simp; try (with_reducible rfl))); (try simp only [Act.put, List.getElem_toArray, List.getElem_cons_succ, List.getElem_cons_zero, List.setIfInBounds_toArray, List.set_cons_zero, List.set_cons_succ]))
    refine wpAnyH_ready (rs := [8]) (by kernel_rfl) (by simp) (AllReadyH.cons rfl (fun K hK => ?_) AllReadyH.nil)
    go_simp
    refine (plain25_any ⟨xu, ⟨xa, xn, xc⟩, xm, ⟨sa, sn, sc⟩⟩ P' _ (readP_below HQ1.out (b_call HB10.out (b_call HB1011.out (by (repeat' (first | exact Below.refl _ _ | assumption | refine b_alloc ?_ _ | refine b_over ?_ _ | refine b_drew ?_ | refine b_call ?_ (by assumption))))))) (small_may HMP.out)).mono ?_
    rintro e w20 ⟨o5, rfl, ho5, hb20⟩
    have HO5 := Lib.hid ho5
    obtain ⟨ou5, ⟨oa5, on5, oc5⟩, om5, ⟨pa5, pn5, pc5⟩⟩ := o5
    clear ho5
    unfold aggP Sl.v
    simp only
    refine hK.out _ _ (HS.out _ (by (repeat' (first | exact Below.refl _ _ | assumption | refine b_alloc ?_ _ | refine b_over ?_ _ | refine b_drew ?_ | refine b_call ?_ (by assumption))))) (fun hHeld => ?_)
    clear hK K
    (try simp only [Act.put, List.getElem_toArray, List.getElem_cons_succ, List.getElem_cons_zero, List.setIfInBounds_toArray, List.set_cons_zero, List.set_cons_succ])
    refine wpAnyH_ready (rs := [10]) (by kernel_rfl) (by simp) (AllReadyH.cons rfl (fun K hK => ?_) AllReadyH.nil)
    go_simp
    refine (rsame_eq ⟨ou5, ⟨oa5, on5, oc5⟩, om5, ⟨pa5, pn5, pc5⟩⟩ ⟨zu, ⟨za, zn, zc⟩, zm, ⟨ya, yn, yc⟩⟩ P' _ HO5.out (readP_below HQ2.out (b_call HB1011.out (by (repeat' (first | exact Below.refl _ _ | assumption | refine b_alloc ?_ _ | refine b_over ?_ _ | refine b_drew ?_ | refine b_call ?_ (by assumption)))))) HMP.out HGP.out).mono ?_
    rintro e w21 ⟨rfl, hb21⟩
    refine hK.out _ _ (HS.out _ (by (repeat' (first | exact Below.refl _ _ | assumption | refine b_alloc ?_ _ | refine b_over ?_ _ | refine b_drew ?_ | refine b_call ?_ (by assumption))))) (fun hHeld => ?_)
    clear hK K
    (try simp only [Act.put, List.getElem_toArray, List.getElem_cons_succ, List.getElem_cons_zero, List.setIfInBounds_toArray, List.set_cons_zero, List.set_cons_succ])
    refine atI 11 ?_
    iterate 2 (refine takeN (v := ?_) rfl (by rfl) ?_ hHeld ?_; rotate_left; (focus (intro w hSw; (try dsimp only at hSw); go_simp; try (with_reducible rfl))); (try simp only [Act.put, Nat.reduceAdd, List.getElem_toArray, List.getElem_cons_succ, List.getElem_cons_zero, List.setIfInBounds_toArray, List.set_cons_zero, List.set_cons_succ]))
    refine atIo ?_
    refine wpAnyH_ready (rs := [13]) (by kernel_rfl) (by simp) (AllReadyH.cons rfl (fun K hK => ?_) AllReadyH.nil)
    go_simp
    refine (awake34 _ (max_below HM.out (b_call HB2.out (b_call HB11.out (by (repeat' (first | exact Below.refl _ _ | assumption | refine b_alloc ?_ _ | refine b_over ?_ _ | refine b_drew ?_ | refine b_call ?_ (by assumption)))))))).mono ?_
    rintro e w22 ⟨rfl, hb22⟩
    refine hK.out _ _ (HS.out _ (by (repeat' (first | exact Below.refl _ _ | assumption | refine b_alloc ?_ _ | refine b_over ?_ _ | refine b_drew ?_ | refine b_call ?_ (by assumption))))) (fun hHeld => ?_)
    clear hK K
    (try simp only [Act.put, List.getElem_toArray, List.getElem_cons_succ, List.getElem_cons_zero, List.setIfInBounds_toArray, List.set_cons_zero, List.set_cons_succ])
    refine atI 14 ?_
    iterate 2 (refine takeN (v := ?_) rfl (by rfl) ?_ hHeld ?_; rotate_left; (focus (intro w hSw; (try dsimp only at hSw); go_simp; try (with_reducible rfl))); (try simp only [Act.put, Nat.reduceAdd, List.getElem_toArray, List.getElem_cons_succ, List.getElem_cons_zero, List.setIfInBounds_toArray, List.set_cons_zero, List.set_cons_succ]))
    refine atIo ?_
    refine wpAnyH_done (by kernel_rfl) ?_ _
    go_wp2
    go_ret
    exact ⟨rfl, b_call HB2.out (b_call HB11.out (by (repeat' (first | exact Below.refl _ _ | assumption | refine b_alloc ?_ _ | refine b_over ?_ _ | refine b_drew ?_ | refine b_call ?_ (by assumption)))))⟩
end Go.Proofs.YtedmjlhgpdeafaaDoor
