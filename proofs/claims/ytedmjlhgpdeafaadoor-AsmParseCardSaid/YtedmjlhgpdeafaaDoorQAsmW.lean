/- Layer 34: the program's Parse, walked. Conditions: those stated; where the library's MaxLen stands it holds a number. -/
import Derived.Test.YtedmjlhgpdeafaaDoorQAsmU
namespace Go.Proofs.YtedmjlhgpdeafaaDoor
open Go.RowKit
set_option linter.unusedVariables false
set_option linter.unusedSimpArgs false
theorem words_each : ∀ (l w x : List UInt8), x ∈ wordsGo w l → x.length ≤ w.length + l.length
  | [], w, x, h => by
    unfold wordsGo at h
    split at h
    · cases h
    · simp only [List.mem_cons, List.not_mem_nil, or_false] at h
      rw [h]; simp
  | c :: r, w, x, h => by
    have h1 := words_each r [] x
    have h2 := words_each r (w ++ [c]) x
    unfold wordsGo at h
    simp only [List.length_nil, List.length_append, List.length_cons] at *
    split at h
    · split at h
      · cases h
      · simp only [List.mem_cons, List.not_mem_nil, or_false] at h
        rw [h]; omega
    · split at h
      · split at h
        · have := h1 h; omega
        · rcases List.mem_cons.1 h with e | e
          · rw [e]; omega
          · have := h1 e; omega
      · have := h2 h; omega
def pz : PrV := ⟨false, ⟨none, 0, 0⟩, 0, ⟨none, 0, 0⟩⟩
/-- What Parse answers. -/
def ParseEnd (w : World) (r : PRes) (e : Ending) (w' : World) : Prop := Below w.heap.size w w' ∧ match r with
  | .bad k => e = .returned (.tuple #[aggP pz, .int .i64 (k : Int), .int .i64 4])
  | .done P => ∃ q, e = .returned (.tuple #[aggP q, .int .i64 0, .int .i64 0]) ∧ ReadP w' q P
/-- Where Parse stands ahead of a line. -/
structure PAt (W1 w : World) (rb A : Nat) (LS : List (List UInt8)) (R : PRes) (k n : Nat) (P : PrM) (g s : Sl) : Prop where
  rd : ARdAt W1 w rb (decide (n = 0)) (nxV rb n) P g s
  n3 : n ≤ 3
  ls : ReadR strE w (.slice (some ⟨A, 0, none⟩) LS.length LS.length) LS
  ty : tyB w A = some STRT
  f1 : P.fs.length ≤ k
  f2 : ∀ f ∈ P.fs, f.code.length ≤ k
  r : R = runL P n (k + 1) (LS.drop k)
theorem line_at {w : World} {A k : Nat} {LS : List (List UInt8)} (h : ReadR strE w (.slice (some ⟨A, 0, none⟩) LS.length LS.length) LS) (hk : k < LS.length) : A < w.heap.size ∧ w.cell? ⟨A, k, none⟩ = some (.string ⟨LS[k].toArray⟩) := by
  obtain ⟨b, o, cap, e, h1, h2, hb, h4⟩ := readR_pos h (by omega)
  injection e with e _ _
  injection e with e
  injection e with e1 e2 _
  subst e1 e2
  refine ⟨hb, ?_⟩
  have q := h4 k hk 0 (by decide)
  have e : 0 + (k * strE.size + 0) = k := by show 0 + (k * 1 + 0) = k; omega
  rw [e] at q
  simpa [strE] using q
theorem run_skip {P : PrM} {n k : Nat} {LS : List (List UInt8)} (hk : k < LS.length) (hw : wordsL LS[k] = []) : runL P n (k + 1) (LS.drop k) = runL P n (k + 1 + 1) (LS.drop (k + 1)) := by
  rw [List.drop_eq_getElem_cons hk]
  show (if wordsL LS[k] = [] then _ else _) = _
  rw [if_pos hw]
theorem run_bad {P : PrM} {n k : Nat} {LS : List (List UInt8)} (hk : k < LS.length) (hw : wordsL LS[k] ≠ []) (hf : fitsL P n (wordsL LS[k]) = none) : runL P n (k + 1) (LS.drop k) = .bad (k + 1) := by
  rw [List.drop_eq_getElem_cons hk]
  show (if wordsL LS[k] = [] then _ else _) = _
  rw [if_neg hw, hf]
theorem run_go {P P' : PrM} {n n' k : Nat} {LS : List (List UInt8)} (hk : k < LS.length) (hw : wordsL LS[k] ≠ []) (hf : fitsL P n (wordsL LS[k]) = some (P', n')) : runL P n (k + 1) (LS.drop k) = runL P' n' (k + 1 + 1) (LS.drop (k + 1)) := by
  rw [List.drop_eq_getElem_cons hk]
  show (if wordsL LS[k] = [] then _ else _) = _
  rw [if_neg hw, hf]
theorem read_turn {W0 w w' : World} {rb j : Nat} {fi : Bool} {nx : Value} {P : PrM} {g s : Sl} (h : ARdAt W0 w rb fi nx P g s) (hg : w.grownBy w' (some j)) (ty : tyB w j = some PROT) : ReadP w' ⟨P.u, g, P.m, s⟩ P := by
  have hX : ∀ i, some j = some i → ∃ X, tyB w i = some X ∧ X ≠ INTT ∧ X ≠ INST ∧ X ≠ FUNT := fun i e => by
    injection e with e
    subst e
    exact ⟨PROT, ty, by decide, by decide, by decide⟩
  have hk : KeepG 0 w w' := keepG_grown hg (fun j e => by obtain ⟨X, a, b, c, _⟩ := hX j e; exact ⟨X, a, b, fun z => absurd z c⟩)
  exact ⟨rfl, keepG_readI hk h.go h.gl, rfl, fns_read (fns_grown hg hX h.fs)⟩
/-- A line is empty. -/
theorem pat_skip {W1 w w' : World} {rb A k n : Nat} {LS : List (List UInt8)} {R : PRes} {P : PrM} {g s : Sl} (h : PAt W1 w rb A LS R k n P g s) (hb : Below w.heap.size w w') (hk : k < LS.length) (hw : wordsL LS[k] = []) : PAt W1 w' rb A LS R (k + 1) n P g s :=
  ⟨ard_below h.rd hb, h.n3, readR_below h.ls hb, tyB_call h.ty hb, by have := h.f1; omega, fun f hf => by have := h.f2 f hf; omega, h.r.trans (run_skip hk hw)⟩
/-- A line fits. -/
theorem pat_go {W1 w w1 w2 w3 : World} {rb A k n n' : Nat} {LS : List (List UInt8)} {R : PRes} {P P' : PrM} {g s g' s' : Sl} {fi : Bool} (h : PAt W1 w rb A LS R k n P g s) (hb : Below w.heap.size w w1) (hk : k < LS.length) (hw : wordsL LS[k] ≠ []) (hf : fitsL P n (wordsL LS[k]) = some (P', n'))
    (hK : KeepE STRT w1 w2) (h2 : ARdAt W1 w2 rb fi (nxV rb n') P' g' s') (h3 : w3 = w2.setCell ⟨rb, 4, none⟩ (.bool false)) : PAt W1 w3 rb A LS R (k + 1) n' P' g' s' := by
  obtain ⟨⟨z1, z2⟩, y1, y2⟩ := fits_sz hf h.f1 h.f2
  have HG : w2.grownBy w3 (some rb) := by rw [h3]; exact gb_set (gb_refl w2 (some rb)) 4 none _
  have HT := ard_turn (P' := P') (g' := g') (fi' := false) (nx' := nxV rb n') h2 HG (by rw [h3]; exact blk_set h2.hd 4 _) h2.gl h2.go rfl (by rw [h3, tyB_set]; exact h2.ty)
  have K := keepE_trans (keepE_trans (keepE_below hb) hK) HT.2
  have e0 : decide (n' = 0) = false := decide_eq_false (by omega)
  exact ⟨by rw [e0]; exact HT.1, y2, readR_apart h.ls (Or.inr ⟨A, rfl, h.ty⟩) K.1 K.2, keepE_ty K A h.ty, z1, z2, h.r.trans (run_go hk hw hf)⟩
set_option maxRecDepth 100000 in
set_option maxHeartbeats 4000000 in
/-- The program's Parse is parseL. -/
theorem aparse_any (l : List UInt8) (w : World) (hl : l.length ≤ 500000) (hm : MaxAt w) : Calls Tryd.prog 10 #[strV l] w (ParseEnd w (parseL l)) := by
  have HM1 := Lib.hid hm
  have HLL : Hid ((linesL l).length ≤ l.length + 1) := Lib.hid (by have := lines_len l []; exact this)
  have HLE : Hid (∀ x ∈ linesL l, x.length ≤ l.length) := Lib.hid (fun x hx => by have := lines_each l [] x hx; simpa using this)
  have HSP := Lib.hid (fun w => ssplit_any l w (by omega))
  have HPL : Hid (parseL l = match runL P0 0 1 (linesL l) with | .bad k => .bad k | .done P => if mayP P = true then .done P else .bad 0) := Lib.hid rfl
  have HR0 : Hid (runL P0 0 1 (linesL l) = runL P0 0 1 (linesL l)) := Lib.hid rfl
  generalize linesL l = LS at *
  obtain ⟨R, hR⟩ : ∃ R, R = runL P0 0 1 LS := ⟨_, rfl⟩
  rw [← hR] at HPL
  clear HR0
  replace hR := Lib.hid hR
  have hlen : LS.length ≤ 500001 := by have := HLL.out; omega
  have HL0 := Lib.hid hl
  clear hm hl HLL
  unfold strV
  go_enter Tryd.func10, Tryd.ntmps10
  go_upto_region 1 with fail
  refine wp_named ?_
  intro W1 hW1
  have HR1 : Hid (Blk W1 w.heap.size [.bool false, .slice none 0 0, .int .i64 0, .slice none 0 0]) := Lib.hid (by rw [hW1]; exact blk_new _ _ _)
  have HB1 : Hid (Below w.heap.size w W1) := Lib.hid (by rw [hW1]; exact b_alloc (Below.refl _ _) _)
  have HTR : Hid (tyB W1 w.heap.size = some PROT) := Lib.hid (by rw [hW1]; exact tyB_new _ _ _)
  have HM2 : Hid (MaxAt W1) := Lib.hid (max_below HM1.out HB1.out)
  clear hW1 HM1
  go_upto_region 3 with fail
  refine wp_named ?_
  intro W3 hW3
  have HD3 : Hid (ARdAt W1 W3 W1.heap.size true (nxV W1.heap.size 0) P0 ⟨none, 0, 0⟩ ⟨none, 0, 0⟩) := Lib.hid (by
    rw [hW3]
    refine ⟨blk_new _ _ _, tyB_new _ _ _, readI_nil _, Or.inl rfl, ⟨[], ownR_nil _ _, Or.inl ⟨rfl, rfl⟩⟩, b_alloc (Below.refl _ _) _, Nat.le_refl _⟩)
  have HM3 : Hid (MaxAt W3) := Lib.hid (max_below HM2.out HD3.out.be)
  clear hW3
  generalize W1.heap.size = rb at *
  go_wp2_with fail
  refine (HSP.out _ HM3.out).mono ?_
  rintro e w4 ⟨A, rfl, hr4, hty4, hb4⟩
  have HP4 : Hid (PAt W1 w4 rb A LS R 0 0 P0 ⟨none, 0, 0⟩ ⟨none, 0, 0⟩) := Lib.hid ⟨ard_below HD3.out hb4, by omega, hr4, hty4, Nat.zero_le _, (fun f hf => by cases hf), by rw [hR.out]; rfl⟩
  clear hr4 hty4 hb4 HSP HM3 HD3 hR
  go_wp2_with fail
  go_loopw [19] (fun i wr => ∃ k : Nat, k ≤ LS.length ∧ i = .int .i64 k ∧ Hid (∃ n P g s, PAt W1 wr rb A LS R k n P g s)) (fun i _ => LS.length - (intOf i).toNat)
  case atStart => exact ⟨0, Nat.zero_le _, rfl, Lib.hid ⟨0, P0, _, _, HP4.out⟩⟩
  case round =>
    obtain ⟨k, hk, rfl, HX⟩ := hrel
    obtain ⟨n, P, g, s, hX⟩ := HX.out
    have HP := Lib.hid hX
    clear hX HX HP4
    have hk0 : (0 : Int) ≤ k := by omega
    by_cases hlt : k < LS.length
    · have HK := Lib.hid hlt
      have c0 := (line_at HP.out.ls hlt).2
      have ca := (line_at HP.out.ls hlt).1
      have hll : LS[k].length ≤ 500000 := by have := HLE.out _ (List.getElem_mem hlt); have := HL0.out; omega
      have HCUT := Lib.hid (fun w => scut_any LS[k] w (by omega))
      have HFLD := Lib.hid (fun w => sfields_any LS[k] w (by omega))
      have HWE : Hid (∀ x ∈ wordsL LS[k], x ≠ [] ∧ x.length ≤ 1000000) := Lib.hid (fun x hx => ⟨words_all _ [] x hx, by have := words_each LS[k] [] x hx; simp at this; omega⟩)
      have hwl : (wordsL LS[k]).length ≤ 500001 := by have := words_len LS[k] []; show (wordsGo [] LS[k]).length ≤ _; omega
      have HM : Hid (MaxAt wr) := Lib.hid (max_below HM2.out HP.out.rd.be)
      obtain ⟨d0, d1, d2, d3, d4, d5, df⟩ := ard_cells HP.out.rd
      have dz := HP.out.rd.hd.1
      have k1 : (k : Int) < LS.length := by omega
      clear hll
      by_cases hw : wordsL LS[k] = []
      · have HW := Lib.hid hw
        rw [hw] at HFLD
        clear hw hwl
        go_wp2_with fail
        refine (HCUT.out _ HM.out).mono ?_
        rintro e w5 ⟨x5, y5, rfl, hb5⟩
        have HB5 := Lib.hid hb5
        clear hb5 c0 d0 d1 d2 d3 d4 d5 df dz
        go_wp2_with fail
        refine (HFLD.out _).mono ?_
        rintro e w6 ⟨A6, rfl, hr6, hb6⟩
        have HB6 := Lib.hid (b_call HB5.out hb6)
        clear hb6 hr6
        go_wp2_with fail
        go_roundw
        case rel => exact ⟨k + 1, by omega, by first | rfl | trivial | go_num, Lib.hid ⟨n, P, g, s, pat_skip HP.out HB6.out HK.out HW.out⟩⟩
        case measure => have := HK.out; simp [intOf]; omega
      · have HNE := Lib.hid hw
        have hwz : ((wordsL LS[k]).length : Int) ≠ 0 := by have := List.length_pos_iff.2 hw; omega
        clear hw
        have hn3 := HP.out.n3
        by_cases hn1 : n ≤ 1
        · have HNX : Hid (nxV rb n = .func (.func 25) #[rp rb] #[]) := Lib.hid (by unfold nxV; rw [if_pos hn1])
          have HN1 := Lib.hid hn1
          clear hn1 hn3
          have HGC := Lib.hid (fun (w' : World) (hb : Below wr.heap.size wr w') (wv : Value) (hw : ReadR strE w' wv (wordsL LS[k])) => gcall_any n HN1.out (ard_below HP.out.rd hb) hw HNE.out HWE.out)
          go_wp2_with fail
          refine (HCUT.out _ HM.out).mono ?_
          rintro e w5 ⟨x5, y5, rfl, hb5⟩
          have HB5 := Lib.hid hb5
          clear hb5 c0 d0 d1 d2 d3 d4 d5 df dz
          go_wp2_with fail
          refine (HFLD.out _).mono ?_
          rintro e w6 ⟨A6, rfl, hr6, hb6⟩
          have HB6 := Lib.hid (b_call HB5.out hb6)
          have HR6 := Lib.hid hr6
          have HC6 := Lib.hid (HGC.out _ HB6.out _ HR6.out)
          have HD6 := Lib.hid (ard_below HP.out.rd HB6.out)
          clear hb6 hr6
          obtain ⟨d0, d1, d2, d3, d4, d5, df⟩ := ard_cells HD6.out
          have dz := HD6.out.hd.1
          rw [HNX.out] at d5
          unfold rp at d5 HC6
          go_wp2_with fail
          refine (HC6.out).mono ?_
          rintro e w7 ⟨rfl, hb7, hS7⟩
          have HBF := Lib.hid hb7
          have HS7 := Lib.hid hS7
          clear hb7 hS7 d0 d1 d2 d3 d4 d5 df dz
          cases hfit : fitsL P n (wordsL LS[k]) with
          | none =>
            have HRB : Hid (R = .bad (k + 1)) := Lib.hid (HP.out.r.trans (run_bad HK.out HNE.out hfit))
            clear hfit
            have HRF := Lib.hid (blk_below HR1.out HBF.out)
            obtain ⟨r0, r1, r2, r3, rf⟩ := blk4 HRF.out
            have rz := HRF.out.1
            go_wp2_with fail
            refine post_named ?_
            intro wF hwF
            have BF : Blk wF w.heap.size [.bool false, .slice none 0 0, .int .i64 0, .slice none 0 0] := by rw [hwF]; exact blk_set (blk_set (blk_set (blk_set HRF.out 0 _) 1 _) 2 _) 3 _
            have FB : Below w.heap.size w wF := by rw [hwF]; exact b_set (b_set (b_set (b_set (b_call HB1.out HBF.out) (Nat.le_refl _) _) (Nat.le_refl _) _) (Nat.le_refl _) _) (Nat.le_refl _) _
            clear hwF
            obtain ⟨q0, q1, q2, q3, _⟩ := blk4 BF
            exact bodyPost_ret (v := .tuple #[.agg #[.bool false, .slice none 0 0, .int .i64 0, .slice none 0 0], .int .i64 ((k : Int) + 1), .int .i64 4]) (by simp [results, Tryd.results10, go_sem, q0, q1, q2, q3]) rfl ⟨FB, by rw [HPL.out, HRB.out]; rfl⟩
          | some q =>
            obtain ⟨P', n'⟩ := q
            have HFI := Lib.hid hfit
            clear hfit
            obtain ⟨hK7, g', s', h7⟩ := HS7.out P' n' HFI.out
            have HK7 := Lib.hid hK7
            have HD7 := Lib.hid h7
            clear hK7 h7
            obtain ⟨d0, d1, d2, d3, d4, d5, df⟩ := ard_cells HD7.out
            have dz := HD7.out.hd.1
            go_wp2_with fail
            go_roundw
            case rel => exact ⟨k + 1, by omega, by first | rfl | trivial | go_num, Lib.hid ⟨n', P', g', s', pat_go HP.out HB6.out HK.out HNE.out HFI.out HK7.out HD7.out rfl⟩⟩
            case measure => have := HK.out; simp [intOf]; omega
        · by_cases hn2 : n = 2
          · subst hn2
            have HNX : Hid (nxV rb 2 = .func (.func 55) #[rp rb] #[]) := Lib.hid rfl
            clear hn1 hn3
            have HGC := Lib.hid (fun (w' : World) (hb : Below wr.heap.size wr w') (wv : Value) (hw : ReadR strE w' wv (wordsL LS[k])) => mcall_any (ard_below HP.out.rd hb) hw HNE.out HWE.out)
            go_wp2_with fail
            refine (HCUT.out _ HM.out).mono ?_
            rintro e w5 ⟨x5, y5, rfl, hb5⟩
            have HB5 := Lib.hid hb5
            clear hb5 c0 d0 d1 d2 d3 d4 d5 df dz
            go_wp2_with fail
            refine (HFLD.out _).mono ?_
            rintro e w6 ⟨A6, rfl, hr6, hb6⟩
            have HB6 := Lib.hid (b_call HB5.out hb6)
            have HR6 := Lib.hid hr6
            have HC6 := Lib.hid (HGC.out _ HB6.out _ HR6.out)
            have HD6 := Lib.hid (ard_below HP.out.rd HB6.out)
            clear hb6 hr6
            obtain ⟨d0, d1, d2, d3, d4, d5, df⟩ := ard_cells HD6.out
            have dz := HD6.out.hd.1
            rw [HNX.out] at d5
            unfold rp at d5 HC6
            go_wp2_with fail
            refine (HC6.out).mono ?_
            rintro e w7 ⟨rfl, hb7, hS7⟩
            have HBF := Lib.hid hb7
            have HS7 := Lib.hid hS7
            clear hb7 hS7 d0 d1 d2 d3 d4 d5 df dz
            cases hfit : fitsL P 2 (wordsL LS[k]) with
            | none =>
              have HRB : Hid (R = .bad (k + 1)) := Lib.hid (HP.out.r.trans (run_bad HK.out HNE.out hfit))
              clear hfit
              have HRF := Lib.hid (blk_below HR1.out HBF.out)
              obtain ⟨r0, r1, r2, r3, rf⟩ := blk4 HRF.out
              have rz := HRF.out.1
              go_wp2_with fail
              refine post_named ?_
              intro wF hwF
              have BF : Blk wF w.heap.size [.bool false, .slice none 0 0, .int .i64 0, .slice none 0 0] := by rw [hwF]; exact blk_set (blk_set (blk_set (blk_set HRF.out 0 _) 1 _) 2 _) 3 _
              have FB : Below w.heap.size w wF := by rw [hwF]; exact b_set (b_set (b_set (b_set (b_call HB1.out HBF.out) (Nat.le_refl _) _) (Nat.le_refl _) _) (Nat.le_refl _) _) (Nat.le_refl _) _
              clear hwF
              obtain ⟨q0, q1, q2, q3, _⟩ := blk4 BF
              exact bodyPost_ret (v := .tuple #[.agg #[.bool false, .slice none 0 0, .int .i64 0, .slice none 0 0], .int .i64 ((k : Int) + 1), .int .i64 4]) (by simp [results, Tryd.results10, go_sem, q0, q1, q2, q3]) rfl ⟨FB, by rw [HPL.out, HRB.out]; rfl⟩
            | some q =>
              obtain ⟨P', n'⟩ := q
              have HFI := Lib.hid hfit
              clear hfit
              obtain ⟨hK7, g', s', h7⟩ := HS7.out P' n' HFI.out
              have HK7 := Lib.hid hK7
              have HD7 := Lib.hid h7
              clear hK7 h7
              obtain ⟨d0, d1, d2, d3, d4, d5, df⟩ := ard_cells HD7.out
              have dz := HD7.out.hd.1
              go_wp2_with fail
              go_roundw
              case rel => exact ⟨k + 1, by omega, by first | rfl | trivial | go_num, Lib.hid ⟨n', P', g', s', pat_go HP.out HB6.out HK.out HNE.out HFI.out HK7.out HD7.out rfl⟩⟩
              case measure => have := HK.out; simp [intOf]; omega
          · have hn : n = 3 := by omega
            subst hn
            have HNX : Hid (nxV rb 3 = .func (.func 74) #[rp rb] #[]) := Lib.hid rfl
            clear hn1 hn2 hn3
            have HF1 : Hid (P.fs.length ≤ 1000000) := Lib.hid (by have := HP.out.f1; omega)
            have HF2 : Hid (∀ f ∈ P.fs, f.code.length ≤ 1000000) := Lib.hid (fun f hf => by have := HP.out.f2 f hf; omega)
            have HGC := Lib.hid (fun (w' : World) (hb : Below wr.heap.size wr w') (wv : Value) (hw : ReadR strE w' wv (wordsL LS[k])) => ccall_any 3 rfl (ard_below HP.out.rd hb) hw HNE.out HWE.out HF1.out HF2.out)
            go_wp2_with fail
            refine (HCUT.out _ HM.out).mono ?_
            rintro e w5 ⟨x5, y5, rfl, hb5⟩
            have HB5 := Lib.hid hb5
            clear hb5 c0 d0 d1 d2 d3 d4 d5 df dz
            go_wp2_with fail
            refine (HFLD.out _).mono ?_
            rintro e w6 ⟨A6, rfl, hr6, hb6⟩
            have HB6 := Lib.hid (b_call HB5.out hb6)
            have HR6 := Lib.hid hr6
            have HC6 := Lib.hid (HGC.out _ HB6.out _ HR6.out)
            have HD6 := Lib.hid (ard_below HP.out.rd HB6.out)
            clear hb6 hr6
            obtain ⟨d0, d1, d2, d3, d4, d5, df⟩ := ard_cells HD6.out
            have dz := HD6.out.hd.1
            rw [HNX.out] at d5
            unfold rp at d5 HC6
            go_wp2_with fail
            refine (HC6.out).mono ?_
            rintro e w7 ⟨rfl, hb7, hS7⟩
            have HBF := Lib.hid hb7
            have HS7 := Lib.hid hS7
            clear hb7 hS7 d0 d1 d2 d3 d4 d5 df dz
            cases hfit : fitsL P 3 (wordsL LS[k]) with
            | none =>
              have HRB : Hid (R = .bad (k + 1)) := Lib.hid (HP.out.r.trans (run_bad HK.out HNE.out hfit))
              clear hfit
              have HRF := Lib.hid (blk_below HR1.out HBF.out)
              obtain ⟨r0, r1, r2, r3, rf⟩ := blk4 HRF.out
              have rz := HRF.out.1
              go_wp2_with fail
              refine post_named ?_
              intro wF hwF
              have BF : Blk wF w.heap.size [.bool false, .slice none 0 0, .int .i64 0, .slice none 0 0] := by rw [hwF]; exact blk_set (blk_set (blk_set (blk_set HRF.out 0 _) 1 _) 2 _) 3 _
              have FB : Below w.heap.size w wF := by rw [hwF]; exact b_set (b_set (b_set (b_set (b_call HB1.out HBF.out) (Nat.le_refl _) _) (Nat.le_refl _) _) (Nat.le_refl _) _) (Nat.le_refl _) _
              clear hwF
              obtain ⟨q0, q1, q2, q3, _⟩ := blk4 BF
              exact bodyPost_ret (v := .tuple #[.agg #[.bool false, .slice none 0 0, .int .i64 0, .slice none 0 0], .int .i64 ((k : Int) + 1), .int .i64 4]) (by simp [results, Tryd.results10, go_sem, q0, q1, q2, q3]) rfl ⟨FB, by rw [HPL.out, HRB.out]; rfl⟩
            | some q =>
              obtain ⟨P', n'⟩ := q
              have HFI := Lib.hid hfit
              clear hfit
              obtain ⟨hK7, g', s', h7⟩ := HS7.out P' n' HFI.out
              have HK7 := Lib.hid hK7
              have HD7 := Lib.hid h7
              clear hK7 h7
              obtain ⟨d0, d1, d2, d3, d4, d5, df⟩ := ard_cells HD7.out
              have dz := HD7.out.hd.1
              go_wp2_with fail
              go_roundw
              case rel => exact ⟨k + 1, by omega, by first | rfl | trivial | go_num, Lib.hid ⟨n', P', g', s', pat_go HP.out HB6.out HK.out HNE.out HFI.out HK7.out HD7.out rfl⟩⟩
              case measure => have := HK.out; simp [intOf]; omega
    · have hke : k = LS.length := by omega
      have HRD : Hid (R = .done P) := Lib.hid (by
        have q := HP.out.r
        rw [List.drop_of_length_le (by omega)] at q
        exact q)
      have HMAY := Lib.hid (fun w' (hb : Below wr.heap.size wr w') => pmay_any ⟨P.u, g, P.m, s⟩ P w' (readP_below (ard_read HP.out.rd) hb))
      have HMAY := Lib.hid (HMAY.out wr (Below.refl _ _))
      unfold aggP at HMAY
      obtain ⟨d0, d1, d2, d3, d4, d5, df⟩ := ard_cells HP.out.rd
      have dz := HP.out.rd.hd.1
      subst hke
      unfold Sl.v at *
      go_wp2_with fail
      refine (HMAY.out).mono ?_
      rintro e w7 ⟨rfl, hb7⟩
      have HB7 := Lib.hid hb7
      have HD7 := Lib.hid (ard_below HP.out.rd hb7)
      have HBF := Lib.hid (HD7.out.be)
      clear hb7 d0 d1 d2 d3 d4 d5 df dz
      obtain ⟨d0, d1, d2, d3, d4, d5, df⟩ := ard_cells HD7.out
      have dz := HD7.out.hd.1
      unfold Sl.v at *
      cases hmay : mayP P with
      | false =>
        have HY := Lib.hid hmay
        clear hmay
        have HRF := Lib.hid (blk_below HR1.out HBF.out)
        obtain ⟨r0, r1, r2, r3, rf⟩ := blk4 HRF.out
        have rz := HRF.out.1
        go_wp2_with fail
        refine post_named ?_
        intro wF hwF
        have BF : Blk wF w.heap.size [.bool false, .slice none 0 0, .int .i64 0, .slice none 0 0] := by rw [hwF]; exact blk_set (blk_set (blk_set (blk_set HRF.out 0 _) 1 _) 2 _) 3 _
        have FB : Below w.heap.size w wF := by rw [hwF]; exact b_set (b_set (b_set (b_set (b_call HB1.out HBF.out) (Nat.le_refl _) _) (Nat.le_refl _) _) (Nat.le_refl _) _) (Nat.le_refl _) _
        clear hwF
        obtain ⟨q0, q1, q2, q3, _⟩ := blk4 BF
        exact bodyPost_ret (v := .tuple #[.agg #[.bool false, .slice none 0 0, .int .i64 0, .slice none 0 0], .int .i64 0, .int .i64 4]) (by simp [results, Tryd.results10, go_sem, q0, q1, q2, q3]) rfl ⟨FB, by rw [HPL.out, HRD.out]; show (match (if mayP P = true then PRes.done P else PRes.bad 0) with | .bad k => _ | .done P => _); rw [HY.out]; rfl⟩
      | true =>
        have HY := Lib.hid hmay
        clear hmay
        have HNR : Hid (w.heap.size ≠ rb) := Lib.hid (by have := HR1.out.1; have := HD7.out.lo; omega)
        have HRF := Lib.hid (blk_below HR1.out HBF.out)
        obtain ⟨r0, r1, r2, r3, rf⟩ := blk4 HRF.out
        have rz := HRF.out.1
        go_wp2_with fail
        refine post_named ?_
        intro wF hwF
        have BF : Blk wF w.heap.size [.bool P.u, .slice g.a g.n g.c, .int .i64 P.m, .slice s.a s.n s.c] := by rw [hwF]; exact blk_set (blk_set (blk_set (blk_set HRF.out 0 _) 1 _) 2 _) 3 _
        have FB : Below w.heap.size w wF := by rw [hwF]; exact b_set (b_set (b_set (b_set (b_call HB1.out HBF.out) (Nat.le_refl _) _) (Nat.le_refl _) _) (Nat.le_refl _) _) (Nat.le_refl _) _
        have HRD2 : ReadP wF ⟨P.u, g, P.m, s⟩ P := by
          exact read_turn HD7.out (by rw [hwF]; exact gb_set (gb_set (gb_set (gb_set (gb_refl w7 (some w.heap.size)) 0 none _) 1 none _) 2 none _) 3 none _) (tyB_call HTR.out HBF.out)
        clear hwF
        obtain ⟨q0, q1, q2, q3, _⟩ := blk4 BF
        exact bodyPost_ret (v := .tuple #[.agg #[.bool P.u, .slice g.a g.n g.c, .int .i64 P.m, .slice s.a s.n s.c], .int .i64 0, .int .i64 0]) (by simp [results, Tryd.results10, go_sem, q0, q1, q2, q3]) rfl ⟨FB, by rw [HPL.out, HRD.out]; show (match (if mayP P = true then PRes.done P else PRes.bad 0) with | .bad k => _ | .done P => _); rw [HY.out]; exact ⟨⟨P.u, g, P.m, s⟩, rfl, HRD2⟩⟩
end Go.Proofs.YtedmjlhgpdeafaaDoor
