/- Layer 34: the document's Parse. Conditions: those stated. -/
import Derived.Test.YtedmjlhgpdeafaaDoorQAsmO
import Derived.Test.YtedmjlhgpdeafaaDoorQAsmW
namespace Go.Proofs.YtedmjlhgpdeafaaDoor
open Go.RowKit
set_option linter.unusedVariables false
set_option linter.unusedSimpArgs false
def RParseEnd (w : World) (r : PRes) (e : Ending) (w' : World) : Prop := Below w.heap.size w w' ∧ match r with
  | .bad k => ∃ q, e = .returned (.tuple #[aggP q, .int .i64 (k : Int), .bool false])
  | .done P => ∃ q, e = .returned (.tuple #[aggP q, .int .i64 0, .bool true]) ∧ ReadP w' q P
/-- Where Parse stands: its result at the first block behind w0's, its program at the next one. -/
structure RpAt (w0 w : World) (l : List UInt8) (R : PRes) (i n k : Nat) (cur : List UInt8) (P : PrM) (v : PrV) : Prop where
  p : Blk w (w0.heap.size + 1) [.bool v.u, v.g.v, .int .i64 v.m, v.f.v]
  r : Blk w w0.heap.size [.bool false, .slice none 0 0, .int .i64 0, .slice none 0 0]
  rd : KeepP (fun j => j = w0.heap.size ∨ j = w0.heap.size + 1) w v P
  be : Below w0.heap.size w0 w
  n3 : n ≤ 3
  kk : k ≤ i + 1
  cl : cur.length ≤ i
  s1 : P.fs.length ≤ i
  s2 : ∀ f ∈ P.fs, f.code.length ≤ i
  go : i ≤ l.length → R = runL P n k (linesGo cur (l.drop i))
  fin : l.length < i → R = .done P
variable {w0 w w' : World} {l : List UInt8} {R : PRes} {i n k : Nat} {cur : List UInt8} {P : PrM} {v : PrV}
theorem rp_below (h : RpAt w0 w l R i n k cur P v) (hb : Below w.heap.size w w') : RpAt w0 w' l R i n k cur P v :=
  ⟨blk_below h.p hb, blk_below h.r hb, keepP_below h.rd hb, b_call h.be hb, h.n3, h.kk, h.cl, h.s1, h.s2, h.go, h.fin⟩
theorem rp_let (h : RpAt w0 w l R i n k cur P v) (hi : i < l.length) {c : UInt8} (hc : l[i] = c) (h10 : c ≠ 10) : RpAt w0 w l R (i + 1) n k (cur ++ [c]) P v := by
  refine ⟨h.p, h.r, h.rd, h.be, h.n3, by have := h.kk; omega, by have := h.cl; simp; omega, by have := h.s1; omega, fun f hf => by have := h.s2 f hf; omega, fun _ => ?_, fun q => by omega⟩
  rw [h.go (by omega), List.drop_eq_getElem_cons hi, hc]
  show runL P n k (if c = 10 then _ else _) = _
  rw [if_neg h10]
/-- A line is at its end. -/
theorem rp_line (h : RpAt w0 w l R i n k cur P v) (hi : i ≤ l.length) (h10 : ∀ (q : i < l.length), l[i] = 10) : ∃ r, R = runL P n k (cur :: r) ∧ ∀ P' n' k', R = runL P' n' k' r → (i + 1 ≤ l.length → R = runL P' n' k' (linesGo [] (l.drop (i + 1)))) ∧ (l.length < i + 1 → R = .done P') := by
  by_cases hlt : i < l.length
  · refine ⟨linesGo [] (l.drop (i + 1)), ?_, fun P' n' k' e => ⟨fun _ => e, fun q => by omega⟩⟩
    rw [h.go hi, List.drop_eq_getElem_cons hlt, h10 hlt]
    rfl
  · refine ⟨[], ?_, fun P' n' k' e => ⟨fun q => by omega, fun _ => e⟩⟩
    rw [h.go hi, List.drop_eq_nil_of_le (by omega)]
    rfl
theorem rp_skip (h : RpAt w0 w l R i n k cur P v) (hi : i ≤ l.length) (h10 : ∀ (q : i < l.length), l[i] = 10) (hw : wordsL cur = []) : RpAt w0 w l R (i + 1) n (k + 1) [] P v := by
  obtain ⟨r, e, hr⟩ := rp_line h hi h10
  have e2 : R = runL P n (k + 1) r := by
    rw [e]
    show (if wordsL cur = [] then _ else _) = _
    rw [if_pos hw]
  obtain ⟨q1, q2⟩ := hr P n (k + 1) e2
  exact ⟨h.p, h.r, h.rd, h.be, h.n3, by have := h.kk; omega, by simp, by have := h.s1; omega, fun f hf => by have := h.s2 f hf; omega, q1, q2⟩
theorem rp_bad (h : RpAt w0 w l R i n k cur P v) (hi : i ≤ l.length) (h10 : ∀ (q : i < l.length), l[i] = 10) (hw : wordsL cur ≠ []) (hf : fitsL P n (wordsL cur) = none) : R = .bad k := by
  obtain ⟨r, e, _⟩ := rp_line h hi h10
  rw [e]
  show (if wordsL cur = [] then _ else match fitsL P n (wordsL cur) with | none => _ | some q => _) = _
  rw [if_neg hw, hf]
theorem rp_go (h : RpAt w0 w l R i n k cur P v) (hi : i ≤ l.length) (h10 : ∀ (q : i < l.length), l[i] = 10) (hw : wordsL cur ≠ []) {P' : PrM} {n' : Nat} (hf : fitsL P n (wordsL cur) = some (P', n')) {v' : PrV} {w2 : World} (hb : Below w.heap.size w w2) (hk : KeepP (fun j => j = w0.heap.size ∨ j = w0.heap.size + 1) w2 v' P') (hg : GrowX w2 w' (fun j => j = w0.heap.size + 1)) (hp : Blk w' (w0.heap.size + 1) [.bool v'.u, v'.g.v, .int .i64 v'.m, v'.f.v]) : RpAt w0 w' l R (i + 1) n' (k + 1) [] P' v' := by
  obtain ⟨r, e, hr⟩ := rp_line h hi h10
  have e2 : R = runL P' n' (k + 1) r := by
    rw [e]
    show (if wordsL cur = [] then _ else match fitsL P n (wordsL cur) with | none => _ | some q => _) = _
    rw [if_neg hw, hf]
  obtain ⟨q1, q2⟩ := hr P' n' (k + 1) e2
  obtain ⟨⟨z1, z2⟩, _, z3⟩ := fits_sz (k := i) hf h.s1 h.s2
  exact ⟨hp, blk_gx (blk_below h.r hb) hg (fun q => by omega), keepP_gx hk (gx_mono hg (fun j _ q => Or.inr q)), b_gx (b_call h.be hb) hg (fun j q => by omega), z3, by have := h.kk; omega, by simp, z1, z2, q1, q2⟩
theorem rp_start (w0 : World) (c1 c2 : Array Value) (T1 T2 : TypeId) (h1 : c1.toList = [.bool false, .slice none 0 0, .int .i64 0, .slice none 0 0]) (h2 : c2.toList = [.bool false, .slice none 0 0, .int .i64 0, .slice none 0 0]) (hR : R = runL P0 0 1 (linesL l)) : RpAt w0 ((w0.alloc (.cells c1 T1)).alloc (.cells c2 T2)) l R 0 0 1 [] P0 pz := by
  refine ⟨?_, by rw [← h1]; exact blk_alloc (blk_new _ _ _) _, ⟨rfl, fun w' _ => readI_nil _, rfl, [], fun w' _ => ⟨readR_nil _, trivial⟩⟩, b_alloc (b_alloc (Below.refl _ _) _) _, by omega, by omega, by simp, Nat.zero_le _, (fun f hf => by cases hf), fun _ => hR, fun q => by omega⟩
  have z := blk_new (w0.alloc (.cells c1 T1)) c2 T2
  rw [World.size_alloc, h2] at z
  exact z
set_option maxRecDepth 100000 in
set_option maxHeartbeats 8000000 in
theorem rparse_any (l : List UInt8) (w : World) (hl : l.length ≤ 500000) : Calls Tryd.prog 18 #[strV l] w (RParseEnd w (parseL l)) := by
  have HPL : Hid (parseL l = match runL P0 0 1 (linesL l) with | .bad k => .bad k | .done P => if mayP P = true then .done P else .bad 0) := Lib.hid rfl
  obtain ⟨R, hR⟩ : ∃ R, R = runL P0 0 1 (linesL l) := ⟨_, rfl⟩
  rw [← hR] at HPL
  have HR := Lib.hid hR
  clear hR
  unfold strV
  go_enter Tryd.func18, Tryd.ntmps18
  go_upto_region 2 with fail
  refine wp_named ?_
  intro W1 hW1
  have HS1 : Hid (RpAt w W1 l R 0 0 1 [] P0 pz) := Lib.hid (by rw [hW1]; exact rp_start w _ _ _ _ rfl rfl HR.out)
  clear hW1 HR
  go_wp2_with fail
  go_loopw [6, 7, 8, 9] (fun nn ss kk ii wr => ∃ (i n k : Nat) (cur : List UInt8), i ≤ l.length + 1 ∧ nn = .int .i64 n ∧ ss = strV cur ∧ kk = .int .i64 k ∧ ii = .int .i64 i ∧ Hid (∃ P v, RpAt w wr l R i n k cur P v)) (fun _ _ _ ii _ => l.length + 1 - (intOf ii).toNat)
  case atStart => exact ⟨0, 0, 1, [], by omega, rfl, rfl, rfl, rfl, Lib.hid ⟨P0, pz, HS1.out⟩⟩
  case round =>
    clear HS1
    obtain ⟨i, n, k, cur, hi, rfl, rfl, rfl, rfl, HX⟩ := hrel
    obtain ⟨P, ⟨u, ⟨ga, gn, gc⟩, m, ⟨fa, fn, fc⟩⟩, hX⟩ := HX.out
    have HP := Lib.hid hX
    have hcl : cur.length ≤ 500001 := by have := hX.cl; omega
    have hkk : k ≤ 500003 := by have := hX.kk; omega
    have hn3 : n ≤ 3 := hX.n3
    clear hX HX
    have hi0 : (0 : Int) ≤ i := by omega
    unfold strV
    by_cases hle : i ≤ l.length
    · have hle1 : (i : Int) ≤ l.length := by omega
      have HLE := Lib.hid hle
      by_cases hlt : i < l.length
      · have hlt1 : (i : Int) < l.length := by omega
        have HLT := Lib.hid hlt
        obtain ⟨c, hc⟩ : ∃ c, (⟨l.toArray⟩ : ByteArray)[i]'(by show i < l.toArray.size; simpa using hlt) = c := ⟨_, rfl⟩
        have HC : Hid (l[i] = c) := Lib.hid hc
        by_cases h10 : c.toNat = 10
        · have hc10 : c = 10 := UInt8.toNat_inj.1 (by show c.toNat = 10; omega)
          have H10 : Hid (∀ (q : i < l.length), l[i] = 10) := Lib.hid (fun q => by rw [← hc10]; exact HC.out)
          have b10 : ((c.toNat : Int) != 10) = false := by rw [h10]; rfl
          clear hc10 h10
          have HWD := Lib.hid (fun w => rwords_any cur w (by omega))
          unfold strV at HWD
          have HWE : Hid (∀ x ∈ wordsL cur, x.length ≤ 1000000) := Lib.hid (fun x hx => by have := words_each cur [] x hx; simp at this; omega)
          go_wp2_with fail
          refine (HWD.out _).mono ?_
          rintro e w3 ⟨vw, rfl, hr3, hb3⟩
          have HP3 := Lib.hid (rp_below HP.out hb3)
          have HW3 := Lib.hid hr3
          obtain ⟨wa, wcp, hvw, _, hwc⟩ := readR_len hr3
          obtain ⟨nw, hnw⟩ : ∃ nw, nw = (wordsL cur).length := ⟨_, rfl⟩
          rw [← hnw] at hvw
          subst hvw
          have HNW := Lib.hid hnw
          clear hr3 hb3 hwc hnw HP
          by_cases hw0 : nw = 0
          · have HW0 : Hid (wordsL cur = []) := Lib.hid (List.eq_nil_of_length_eq_zero (by have := HNW.out; omega))
            subst hw0
            go_wp2_with fail
            go_roundw
            case rel => exact ⟨i + 1, n, k + 1, [], by have := HLE.out; omega, rfl, rfl, by first | rfl | go_num, by first | rfl | go_num, Lib.hid ⟨P, _, rp_skip HP3.out HLE.out H10.out HW0.out⟩⟩
            case measure => have := HLE.out; simp [intOf]; omega
          · have HW0 : Hid (wordsL cur ≠ []) := Lib.hid (fun q => hw0 (by rw [HNW.out, q]; rfl))
            have hw1 : (0 : Int) < nw := by omega
            have hw2 : 0 < nw := by omega
            have HFT : Hid (∀ w', Below w3.heap.size w3 w' → Calls Tryd.prog 49 #[.agg #[.bool u, .slice ga gn gc, .int .i64 m, .slice fa fn fc], .slice wa nw wcp, .int .i64 n] w' (FitEnd34 (fun j => j = w.heap.size ∨ j = w.heap.size + 1) (fitsL P n (wordsL cur)) w')) := Lib.hid (fun w' hb => fits_any (p := ⟨u, ⟨ga, gn, gc⟩, m, ⟨fa, fn, fc⟩⟩) (P := P) (wv := .slice wa nw wcp) (ws := wordsL cur) n hn3 w' (keepP_below HP3.out.rd hb) (fun j hj => by have := HP3.out.p.1; have := hb.size; omega) (readR_below HW3.out hb) HW0.out HWE.out (by have := HP3.out.s1; have := HLE.out; omega) (fun f hf => by have := HP3.out.s2 f hf; have := HLE.out; omega))
            obtain ⟨p0, p1, p2, p3, pf⟩ := blk4 HP3.out.p
            simp only [Sl.v] at p1 p3
            have pz1 := HP3.out.p.1
            clear hw0
            go_wp2_with fail
            refine (HFT.out _ (Below.refl _ _)).mono ?_
            rintro e w4 ⟨⟨u', ⟨ga', gn', gc'⟩, m', ⟨fa', fn', fc'⟩⟩, kr, rfl, hb4, hno, hyes⟩
            have HB4 := Lib.hid hb4
            have HNO := Lib.hid hno
            have HYES := Lib.hid hyes
            have HP4 := Lib.hid (rp_below HP3.out hb4)
            clear hb4 hno hyes p0 p1 p2 p3 pf pz1
            obtain ⟨p0, p1, p2, p3, pf⟩ := blk4 HP4.out.p
            simp only [Sl.v] at p1 p3
            have pz1 := HP4.out.p.1
            unfold aggP Sl.v
            simp only
            cases hf : fitsL P n (wordsL cur) with
            | none =>
              have hkr := HNO.out hf
              subst hkr
              have HE : Hid (parseL l = .bad k) := Lib.hid (by rw [HPL.out, rp_bad HP3.out HLE.out H10.out HW0.out hf])
              go_upto_region 13 with fail
              refine wp_named ?_
              intro w5 hw5
              have HR5 : Hid (Blk w5 w.heap.size [.bool false, .slice none 0 0, .int .i64 0, .slice none 0 0]) := Lib.hid (by
                rw [hw5]
                exact blk_gx HP4.out.r (gx_set4 w4 (w.heap.size + 1) _ _ _ _ _ _ _ _) (fun q => by omega))
              have HB5 : Hid (Below w.heap.size w w5) := Lib.hid (by
                rw [hw5]
                exact b_gx HP4.out.be (gx_set4 w4 (w.heap.size + 1) _ _ _ _ _ _ _ _) (fun j q => by omega))
              clear hw5 p0 p1 p2 p3 pf pz1
              obtain ⟨r0, r1, r2, r3, rf⟩ := blk4 HR5.out
              have rz := HR5.out.1
              go_wp2_with fail
              refine post_named ?_
              intro wF hwF
              have BF : Hid (Blk wF w.heap.size [.bool false, .slice none 0 0, .int .i64 0, .slice none 0 0]) := Lib.hid (by rw [hwF]; exact blk_set (blk_set (blk_set (blk_set HR5.out 0 _) 1 _) 2 _) 3 _)
              have GF : Hid (GrowX w5 wF (fun j => j = w.heap.size)) := Lib.hid (by rw [hwF]; exact gx_set4 _ _ _ _ _ _ _ _ _ _)
              have HBF : Hid (Below w.heap.size w wF) := Lib.hid (b_gx HB5.out GF.out (fun j q => by omega))
              clear hwF
              obtain ⟨q0, q1, q2, q3, _⟩ := blk4 BF.out
              refine bodyPost_ret (v := .tuple #[.agg #[.bool false, .slice none 0 0, .int .i64 0, .slice none 0 0], .int .i64 k, .bool false]) (by simp [results, Tryd.results18, go_sem, q0, q1, q2, q3]) rfl ?_
              rw [HE.out]
              exact ⟨HBF.out, pz, rfl⟩
            | some q =>
              obtain ⟨P', n'⟩ := q
              obtain ⟨hkr, hkp⟩ := HYES.out P' n' hf
              subst hkr
              have HKP := Lib.hid hkp
              have HF := Lib.hid hf
              have hn0 : (0 : Int) ≤ n' := by omega
              clear hkp hf
              go_upto_region 13 with fail
              refine wp_named ?_
              intro w5 hw5
              have HP5 : Hid (RpAt w w5 l R (i + 1) n' (k + 1) [] P' ⟨u', ⟨ga', gn', gc'⟩, m', ⟨fa', fn', fc'⟩⟩) := Lib.hid (by
                have hg := gx_set4 w4 (w.heap.size + 1) 0 1 2 3 (.bool u') (.slice ga' gn' gc') (.int .i64 m') (.slice fa' fn' fc')
                rw [hw5]
                exact rp_go HP3.out HLE.out H10.out HW0.out HF.out HB4.out HKP.out hg (blk_set (blk_set (blk_set (blk_set HP4.out.p 0 _) 1 _) 2 _) 3 _))
              clear hw5 p0 p1 p2 p3 pf pz1
              go_wp2_with fail
              go_roundw
              case rel => exact ⟨i + 1, n', k + 1, [], by have := HLE.out; omega, rfl, rfl, by first | rfl | go_num, by first | rfl | go_num, Lib.hid ⟨P', _, HP5.out⟩⟩
              case measure => have := HLE.out; simp [intOf]; omega
        · have H10 : Hid (c ≠ 10) := Lib.hid (fun q => h10 (by rw [q]; rfl))
          have b10 : ((c.toNat : Int) != 10) = true := by simp; omega
          clear h10
          go_wp2_with fail
          go_roundw
          case rel => exact ⟨i + 1, n, k, cur ++ [c], by have := HLT.out; omega, rfl, congrArg Value.string (by rw [bext2 l i HLT.out]; exact (congrArg (fun z => (⟨cur.toArray⟩ : ByteArray) ++ ⟨[z].toArray⟩) HC.out).trans (ba_append cur [c])), rfl, by first | rfl | go_num, Lib.hid ⟨P, _, rp_let HP.out HLT.out HC.out H10.out⟩⟩
          case measure => have := HLT.out; simp [intOf]; omega
      · have hlt1 : (l.length : Int) ≤ i := by omega
        have H10 : Hid (∀ (q : i < l.length), l[i] = 10) := Lib.hid (fun q => absurd q hlt)
        clear hlt
        have HWD := Lib.hid (fun w => rwords_any cur w (by omega))
        unfold strV at HWD
        have HWE : Hid (∀ x ∈ wordsL cur, x.length ≤ 1000000) := Lib.hid (fun x hx => by have := words_each cur [] x hx; simp at this; omega)
        go_wp2_with fail
        refine (HWD.out _).mono ?_
        rintro e w3 ⟨vw, rfl, hr3, hb3⟩
        have HP3 := Lib.hid (rp_below HP.out hb3)
        have HW3 := Lib.hid hr3
        obtain ⟨wa, wcp, hvw, _, hwc⟩ := readR_len hr3
        obtain ⟨nw, hnw⟩ : ∃ nw, nw = (wordsL cur).length := ⟨_, rfl⟩
        rw [← hnw] at hvw
        subst hvw
        have HNW := Lib.hid hnw
        clear hr3 hb3 hwc hnw HP
        by_cases hw0 : nw = 0
        · have HW0 : Hid (wordsL cur = []) := Lib.hid (List.eq_nil_of_length_eq_zero (by have := HNW.out; omega))
          subst hw0
          go_wp2_with fail
          go_roundw
          case rel => exact ⟨i + 1, n, k + 1, [], by have := HLE.out; omega, rfl, rfl, by first | rfl | go_num, by first | rfl | go_num, Lib.hid ⟨P, _, rp_skip HP3.out HLE.out H10.out HW0.out⟩⟩
          case measure => have := HLE.out; simp [intOf]; omega
        · have HW0 : Hid (wordsL cur ≠ []) := Lib.hid (fun q => hw0 (by rw [HNW.out, q]; rfl))
          have hw1 : (0 : Int) < nw := by omega
          have hw2 : 0 < nw := by omega
          have HFT : Hid (∀ w', Below w3.heap.size w3 w' → Calls Tryd.prog 49 #[.agg #[.bool u, .slice ga gn gc, .int .i64 m, .slice fa fn fc], .slice wa nw wcp, .int .i64 n] w' (FitEnd34 (fun j => j = w.heap.size ∨ j = w.heap.size + 1) (fitsL P n (wordsL cur)) w')) := Lib.hid (fun w' hb => fits_any (p := ⟨u, ⟨ga, gn, gc⟩, m, ⟨fa, fn, fc⟩⟩) (P := P) (wv := .slice wa nw wcp) (ws := wordsL cur) n hn3 w' (keepP_below HP3.out.rd hb) (fun j hj => by have := HP3.out.p.1; have := hb.size; omega) (readR_below HW3.out hb) HW0.out HWE.out (by have := HP3.out.s1; have := HLE.out; omega) (fun f hf => by have := HP3.out.s2 f hf; have := HLE.out; omega))
          obtain ⟨p0, p1, p2, p3, pf⟩ := blk4 HP3.out.p
          simp only [Sl.v] at p1 p3
          have pz1 := HP3.out.p.1
          clear hw0
          go_wp2_with fail
          refine (HFT.out _ (Below.refl _ _)).mono ?_
          rintro e w4 ⟨⟨u', ⟨ga', gn', gc'⟩, m', ⟨fa', fn', fc'⟩⟩, kr, rfl, hb4, hno, hyes⟩
          have HB4 := Lib.hid hb4
          have HNO := Lib.hid hno
          have HYES := Lib.hid hyes
          have HP4 := Lib.hid (rp_below HP3.out hb4)
          clear hb4 hno hyes p0 p1 p2 p3 pf pz1
          obtain ⟨p0, p1, p2, p3, pf⟩ := blk4 HP4.out.p
          simp only [Sl.v] at p1 p3
          have pz1 := HP4.out.p.1
          unfold aggP Sl.v
          simp only
          cases hf : fitsL P n (wordsL cur) with
          | none =>
            have hkr := HNO.out hf
            subst hkr
            have HE : Hid (parseL l = .bad k) := Lib.hid (by rw [HPL.out, rp_bad HP3.out HLE.out H10.out HW0.out hf])
            go_upto_region 13 with fail
            refine wp_named ?_
            intro w5 hw5
            have HR5 : Hid (Blk w5 w.heap.size [.bool false, .slice none 0 0, .int .i64 0, .slice none 0 0]) := Lib.hid (by
              rw [hw5]
              exact blk_gx HP4.out.r (gx_set4 w4 (w.heap.size + 1) _ _ _ _ _ _ _ _) (fun q => by omega))
            have HB5 : Hid (Below w.heap.size w w5) := Lib.hid (by
              rw [hw5]
              exact b_gx HP4.out.be (gx_set4 w4 (w.heap.size + 1) _ _ _ _ _ _ _ _) (fun j q => by omega))
            clear hw5 p0 p1 p2 p3 pf pz1
            obtain ⟨r0, r1, r2, r3, rf⟩ := blk4 HR5.out
            have rz := HR5.out.1
            go_wp2_with fail
            refine post_named ?_
            intro wF hwF
            have BF : Hid (Blk wF w.heap.size [.bool false, .slice none 0 0, .int .i64 0, .slice none 0 0]) := Lib.hid (by rw [hwF]; exact blk_set (blk_set (blk_set (blk_set HR5.out 0 _) 1 _) 2 _) 3 _)
            have GF : Hid (GrowX w5 wF (fun j => j = w.heap.size)) := Lib.hid (by rw [hwF]; exact gx_set4 _ _ _ _ _ _ _ _ _ _)
            have HBF : Hid (Below w.heap.size w wF) := Lib.hid (b_gx HB5.out GF.out (fun j q => by omega))
            clear hwF
            obtain ⟨q0, q1, q2, q3, _⟩ := blk4 BF.out
            refine bodyPost_ret (v := .tuple #[.agg #[.bool false, .slice none 0 0, .int .i64 0, .slice none 0 0], .int .i64 k, .bool false]) (by simp [results, Tryd.results18, go_sem, q0, q1, q2, q3]) rfl ?_
            rw [HE.out]
            exact ⟨HBF.out, pz, rfl⟩
          | some q =>
            obtain ⟨P', n'⟩ := q
            obtain ⟨hkr, hkp⟩ := HYES.out P' n' hf
            subst hkr
            have HKP := Lib.hid hkp
            have HF := Lib.hid hf
            have hn0 : (0 : Int) ≤ n' := by omega
            clear hkp hf
            go_upto_region 13 with fail
            refine wp_named ?_
            intro w5 hw5
            have HP5 : Hid (RpAt w w5 l R (i + 1) n' (k + 1) [] P' ⟨u', ⟨ga', gn', gc'⟩, m', ⟨fa', fn', fc'⟩⟩) := Lib.hid (by
              have hg := gx_set4 w4 (w.heap.size + 1) 0 1 2 3 (.bool u') (.slice ga' gn' gc') (.int .i64 m') (.slice fa' fn' fc')
              rw [hw5]
              exact rp_go HP3.out HLE.out H10.out HW0.out HF.out HB4.out HKP.out hg (blk_set (blk_set (blk_set (blk_set HP4.out.p 0 _) 1 _) 2 _) 3 _))
            clear hw5 p0 p1 p2 p3 pf pz1
            go_wp2_with fail
            go_roundw
            case rel => exact ⟨i + 1, n', k + 1, [], by have := HLE.out; omega, rfl, rfl, by first | rfl | go_num, by first | rfl | go_num, Lib.hid ⟨P', _, HP5.out⟩⟩
            case measure => have := HLE.out; simp [intOf]; omega
    · have hle1 : (l.length : Int) < i := by omega
      have HRD : Hid (R = .done P) := Lib.hid (HP.out.fin (by omega))
      have HRP := Lib.hid (keepP_read HP.out.rd)
      obtain ⟨p0, p1, p2, p3, pf⟩ := blk4 HP.out.p
      simp only [Sl.v] at p1 p3
      have pz1 := HP.out.p.1
      cases hm : mayP P with
      | true =>
        have HM : Hid (∀ w', Below wr.heap.size wr w' → Calls Tryd.prog 7 #[.agg #[.bool u, .slice ga gn gc, .int .i64 m, .slice fa fn fc]] w' fun e w'' => e = .returned (.bool true) ∧ Below w'.heap.size w' w'') := Lib.hid (fun w' hb => by
          have q := rmay25_any _ P w' (readP_below HRP.out hb)
          rw [hm] at q; exact q)
        have HE : Hid (parseL l = .done P) := Lib.hid (by rw [HPL.out, HRD.out]; show (if mayP P = true then _ else _) = _; rw [if_pos hm])
        go_wp2_with fail
        refine (HM.out _ (Below.refl _ _)).mono ?_
        rintro e w3 ⟨rfl, hb3⟩
        have HP3 := Lib.hid (rp_below HP.out hb3)
        clear hb3 p0 p1 p2 p3 pf pz1 HP
        obtain ⟨p0, p1, p2, p3, pf⟩ := blk4 HP3.out.p
        simp only [Sl.v] at p1 p3
        have pz1 := HP3.out.p.1
        obtain ⟨r0, r1, r2, r3, rf⟩ := blk4 HP3.out.r
        have rz := HP3.out.r.1
        go_wp2_with fail
        refine post_named ?_
        intro wF hwF
        have BF : Hid (Blk wF w.heap.size [.bool u, .slice ga gn gc, .int .i64 m, .slice fa fn fc]) := Lib.hid (by rw [hwF]; exact blk_set (blk_set (blk_set (blk_set HP3.out.r 0 _) 1 _) 2 _) 3 _)
        have GF : Hid (GrowX w3 wF (fun j => j = w.heap.size)) := Lib.hid (by rw [hwF]; exact gx_set4 _ _ _ _ _ _ _ _ _ _)
        have HRF : Hid (ReadP wF ⟨u, ⟨ga, gn, gc⟩, m, ⟨fa, fn, fc⟩⟩ P) := Lib.hid (keepP_read (keepP_gx HP3.out.rd (gx_mono GF.out (fun j _ q => Or.inl q))))
        have HBF : Hid (Below w.heap.size w wF) := Lib.hid (b_gx HP3.out.be GF.out (fun j q => by omega))
        clear hwF
        obtain ⟨q0, q1, q2, q3, _⟩ := blk4 BF.out
        refine bodyPost_ret (v := .tuple #[.agg #[.bool u, .slice ga gn gc, .int .i64 m, .slice fa fn fc], .int .i64 0, .bool true]) (by simp [results, Tryd.results18, go_sem, q0, q1, q2, q3]) rfl ?_
        rw [HE.out]
        exact ⟨HBF.out, ⟨u, ⟨ga, gn, gc⟩, m, ⟨fa, fn, fc⟩⟩, rfl, HRF.out⟩
      | false =>
        have HM : Hid (∀ w', Below wr.heap.size wr w' → Calls Tryd.prog 7 #[.agg #[.bool u, .slice ga gn gc, .int .i64 m, .slice fa fn fc]] w' fun e w'' => e = .returned (.bool false) ∧ Below w'.heap.size w' w'') := Lib.hid (fun w' hb => by
          have q := rmay25_any _ P w' (readP_below HRP.out hb)
          rw [hm] at q; exact q)
        have HE : Hid (parseL l = .bad 0) := Lib.hid (by rw [HPL.out, HRD.out]; show (if mayP P = true then _ else _) = _; rw [hm]; rfl)
        go_wp2_with fail
        refine (HM.out _ (Below.refl _ _)).mono ?_
        rintro e w3 ⟨rfl, hb3⟩
        have HP3 := Lib.hid (rp_below HP.out hb3)
        clear hb3 p0 p1 p2 p3 pf pz1 HP
        obtain ⟨r0, r1, r2, r3, rf⟩ := blk4 HP3.out.r
        have rz := HP3.out.r.1
        go_wp2_with fail
        refine post_named ?_
        intro wF hwF
        have BF : Hid (Blk wF w.heap.size [.bool false, .slice none 0 0, .int .i64 0, .slice none 0 0]) := Lib.hid (by rw [hwF]; exact blk_set (blk_set (blk_set (blk_set HP3.out.r 0 _) 1 _) 2 _) 3 _)
        have GF : Hid (GrowX w3 wF (fun j => j = w.heap.size)) := Lib.hid (by rw [hwF]; exact gx_set4 _ _ _ _ _ _ _ _ _ _)
        have HBF : Hid (Below w.heap.size w wF) := Lib.hid (b_gx HP3.out.be GF.out (fun j q => by omega))
        clear hwF
        obtain ⟨q0, q1, q2, q3, _⟩ := blk4 BF.out
        refine bodyPost_ret (v := .tuple #[.agg #[.bool false, .slice none 0 0, .int .i64 0, .slice none 0 0], .int .i64 0, .bool false]) (by simp [results, Tryd.results18, go_sem, q0, q1, q2, q3]) rfl ?_
        rw [HE.out]
        exact ⟨HBF.out, pz, rfl⟩
end Go.Proofs.YtedmjlhgpdeafaaDoor
