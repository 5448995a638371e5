/- Layer 4's tables: the contracts of place, Count, Longest, Head. Conditions: a table of at most 256 pages. -/
import Derived.Test.YtfbdnjmljdfjjaaPageL
namespace Go.Proofs.Ytfbdnjmljdfjjaa
open Go.RowKit
set_option linter.unusedVariables false
set_option linter.unusedSimpArgs false
attribute [local go_sem] over_cell over_frozen
theorem field_k (a b c d : Value) (w : World) : (Instr.field 36 (.agg #[a, b, c, d]) 0).run Try.prog w = .ok a w := by kernel_rfl
theorem field_n (a b c d : Value) (w : World) : (Instr.field 36 (.agg #[a, b, c, d]) 3).run Try.prog w = .ok d w := by kernel_rfl
attribute [local go_sem] field_k field_n
def okR (r : Int) : Bool := decide (0 ≤ r)
def atR (r : Int) : Int := if 0 ≤ r then r else 0
def PlaceRet (L : List Row4) (lo hi : Int) (n : Nat) (w : World) (e : Ending) (w' : World) : Prop := ∃ r, IsPlace L lo hi n r ∧ e = .returned (.tuple #[.int .i64 (atR r), .bool (okR r)]) ∧ Below w.heap.size w w'
theorem tplace_any {w : World} {b g cap : Nat} {L : List Row4} (h : TabAt w b g cap L) (lo hi : Int) (n : Nat) (h0 : 0 ≤ lo) (h1 : lo < hi → hi ≤ L.length) (hn : 1 ≤ n) (hn2 : n ≤ 256) :
    Calls Try.prog 33 #[tp b, .int .i64 lo, .int .i64 hi, .int .i64 n] w (PlaceRet L lo hi n w) := by
  obtain ⟨c0, hf⟩ := blk1 h.hd
  have hb := h.hd.1
  have hg := h.rw.1
  have hmx : (L.length : Int) ≤ 256 := by have := h.mx; omega
  have HC := Lib.hid (tab_cells h)
  have H1 := Lib.hid h1
  clear h h1
  unfold tp
  go_enter Try.func33, Try.ntmps33
  go_wp2_with fail
  go_loopw [10, 11] (fun r i wr => ∃ k run : Nat, r = .int .i64 run ∧ i = .int .i64 k ∧ Hid (RunAt L lo hi n k run) ∧ run < n ∧ (k : Int) ≤ max lo hi ∧ Below w.heap.size w wr) (fun _ i _ => (max lo hi - intOf i).toNat)
  case atStart => exact ⟨lo.toNat, 0, rfl, by rw [Int.toNat_of_nonneg h0], run_start (by omega), by omega, by omega, Below.refl _ _⟩
  case round =>
    obtain ⟨k, run, rfl, rfl, hr, hrn, hk, hbw⟩ := hrel
    obtain ⟨q1, q2⟩ := bcell hbw
    by_cases hlt : (k : Int) < hi
    · have hlo : lo ≤ (k : Int) := by have := hr.out.2.1; omega
      have hL := H1.out (by omega)
      have hkL : k < L.length := by omega
      obtain ⟨d0, d1, d2, d3⟩ := HC.out k hkL
      have k0 : (0 : Int) ≤ k := by omega
      have k1 : (k : Int) < L.length := by omega
      have rn : (run : Int) < n := by omega
      have rn2 : (run : Int) ≤ 256 := by omega
      have nn : (n : Int) ≤ 256 := by omega
      rw [← q1 _ _ hg] at d0 d1 d2 d3
      rw [← q1 _ _ hb] at c0
      have hfr := frB_in hkL
      generalize L[k] = r at *
      have HF := Lib.hid hfr
      clear hfr q1 q2
      go_wp2_with fail
      refine (free_any r _).mono ?_
      rintro e w1 ⟨rfl, hb1⟩
      have hB := b_call hbw hb1
      cases hz : isZ r with
      | true =>
        have ht : frB L k = true := by rw [HF.out, hz]
        by_cases hr1 : run + 1 = n
        · have t1 : (((run : Int) + 1) == (n : Int)) = true := by rw [beq_iff_eq]; omega
          have HR1 := Lib.hid hr1; clear hr1
          go_wp2_with fail
          go_ret2
          have := run_hit (run_free hr.out ht) HR1.out (by omega) (by omega)
          refine ⟨_, this, ?_, hB⟩
          have := HR1.out
          have e1 : atR (((k + 1 : Nat) : Int) - n) = (k : Int) - n + 1 := by unfold atR; rw [if_pos (by have := (run_free hr.out ht).1; omega)]; omega
          have e2 : okR (((k + 1 : Nat) : Int) - n) = true := by unfold okR; rw [decide_eq_true_iff]; have := (run_free hr.out ht).1; omega
          rw [e1, e2]; rfl
        · have t1 : (((run : Int) + 1) == (n : Int)) = false := by rw [beq_eq_false_iff_ne]; omega
          go_wp2_with fail
          go_roundw
          case rel => exact ⟨k + 1, run + 1, by go_num, by go_num, run_free hr.out ht, by omega, by omega, hB⟩
          case measure => simp only [intOf]; omega
      | false =>
        have ht : frB L k = false := by rw [HF.out, hz]
        have t1 : ((0 : Int) == (n : Int)) = false := by rw [beq_eq_false_iff_ne]; omega
        go_wp2_with fail
        go_roundw
        case rel => exact ⟨k + 1, 0, rfl, by go_num, run_full hr.out hrn ht, by omega, by omega, hB⟩
        case measure => simp only [intOf]; omega
    · go_wp2_with fail
      go_ret2
      exact ⟨-1, run_end hr.out hrn (by omega), rfl, hbw⟩
theorem tcount_any {w : World} {b g cap : Nat} {L : List Row4} (h : TabAt w b g cap L) (lo hi kind : Int) :
    Calls Try.prog 10 #[tp b, .int .i64 lo, .int .i64 hi, .int .i64 kind] w fun e w' => e = .returned (.int .i64 (countI L lo hi kind)) ∧ w = w' := by
  obtain ⟨c0, hf⟩ := blk1 h.hd
  have hmx : (L.length : Int) ≤ 256 := by have := h.mx; omega
  have HC := Lib.hid (tab_cells h)
  have hcut := tcut_any h lo hi
  have HE := Lib.hid (cnt_cut L lo hi kind L.length (Nat.le_refl _))
  obtain ⟨u1, u2, u3⟩ := cut_bd L.length lo hi
  clear h
  unfold tp at *
  unfold countI
  rw [← HE.out]
  clear HE
  generalize cutL lo = l1 at *
  generalize cutH L.length lo hi = h1 at *
  have U3 := Lib.hid u3
  have HCUT := Lib.hid hcut
  clear u3 hcut
  go_enter Try.func10, Try.ntmps10
  go_wp2_with fail
  refine HCUT.out.mono ?_
  rintro e w1 ⟨rfl, rfl⟩
  go_wp2_with fail
  go_loop [9, 10] (fun n i => ∃ k : Nat, l1 ≤ (k : Int) ∧ (k : Int) ≤ h1 ∧ n = .int .i64 (cntT L l1 h1 kind k) ∧ i = .int .i64 k) (fun _ i => (h1 - intOf i).toNat)
  case atStart => exact ⟨l1.toNat, by omega, by omega, by rw [cnt_low _ _ _ _ _ (by omega)]; rfl, by rw [Int.toNat_of_nonneg u1]⟩
  case round =>
    obtain ⟨k, hk1, hk2, rfl, rfl⟩ := hrel
    have hcl := cnt_le L l1 h1 kind k
    by_cases hlt : (k : Int) < h1
    · have hL := U3.out (by omega)
      have hkL : k < L.length := by omega
      obtain ⟨d0, d1, d2, d3⟩ := HC.out k hkL
      have k0 : (0 : Int) ≤ k := by omega
      have k1 : (k : Int) < L.length := by omega
      have cl2 : (cntT L l1 h1 kind k : Int) ≤ 256 := by omega
      have hg := getD_in hkL
      have HS : Hid (cntT L l1 h1 kind (k + 1) = cntT L l1 h1 kind k + if l1 ≤ (k : Int) ∧ (k : Int) < h1 ∧ L[k].k = kind then 1 else 0) := by rw [← hg]; exact rfl
      clear hg hcl
      generalize L[k] = r at *
      by_cases hq : r.k = kind
      · have t1 : (r.k == kind) = true := by rw [beq_iff_eq]; exact hq
        have HQ := Lib.hid hq; clear hq
        go_wp2_with fail
        go_round
        case rel => exact ⟨k + 1, by omega, by omega, by rw [HS.out, if_pos ⟨hk1, hlt, HQ.out⟩]; go_num, by go_num⟩
        case measure => simp only [intOf]; omega
      · have t1 : (r.k == kind) = false := by rw [beq_eq_false_iff_ne]; exact hq
        have HQ := Lib.hid hq; clear hq
        go_wp2_with fail
        go_round
        case rel => exact ⟨k + 1, by omega, by omega, by rw [HS.out, if_neg (fun z => HQ.out z.2.2)]; rfl, by go_num⟩
        case measure => simp only [intOf]; omega
    · go_wp2_with fail
      go_ret
      refine ⟨?_, rfl⟩
      have e : cntT L l1 h1 kind L.length = cntT L l1 h1 kind k := by
        have hU := U3.out
        rcases Nat.lt_or_ge L.length k with q | q
        · rw [cnt_low _ _ _ _ k (by omega), cnt_low _ _ _ _ L.length (by omega)]
        · exact cnt_high L l1 h1 kind k (by omega) _ q
      rw [e]; rfl
def LongRet (L : List Row4) (lo hi : Int) (w : World) (e : Ending) (w' : World) : Prop := ∃ m : Nat, IsLong L lo hi m ∧ e = .returned (.int .i64 m) ∧ Below w.heap.size w w'
theorem tlong_any {w : World} {b g cap : Nat} {L : List Row4} (h : TabAt w b g cap L) (lo hi : Int) :
    Calls Try.prog 20 #[tp b, .int .i64 lo, .int .i64 hi] w (LongRet L lo hi w) := by
  obtain ⟨c0, hf⟩ := blk1 h.hd
  have hb := h.hd.1
  have hg := h.rw.1
  have hmx : (L.length : Int) ≤ 256 := by have := h.mx; omega
  have HC := Lib.hid (tab_cells h)
  have hcut := tcut_any h lo hi
  have HE : Hid (∀ m, IsLong L (cutL lo) (cutH L.length lo hi) m → IsLong L lo hi m) := fun m hm => long_cut hm
  obtain ⟨u1, u2, u3⟩ := cut_bd L.length lo hi
  clear h
  unfold tp at *
  replace HE := HE.out
  generalize cutL lo = l1 at *
  generalize cutH L.length lo hi = h1 at *
  have U3 := Lib.hid u3
  have HCUT := Lib.hid hcut
  have HE2 := Lib.hid HE
  clear u3 HE hcut
  go_enter Try.func20, Try.ntmps20
  go_wp2_with fail
  refine HCUT.out.mono ?_
  rintro e w1 ⟨rfl, rfl⟩
  go_wp2_with fail
  go_loopw [7, 8, 9] (fun v r i wr => ∃ k run best : Nat, v = .int .i64 best ∧ r = .int .i64 run ∧ i = .int .i64 k ∧ Hid (LongAt L l1 h1 k run best) ∧ l1 ≤ (k : Int) ∧ (k : Int) ≤ h1 ∧ best ≤ k ∧ Below w.heap.size w wr) (fun _ _ i _ => (h1 - intOf i).toNat)
  case atStart => exact ⟨l1.toNat, 0, 0, rfl, rfl, by rw [Int.toNat_of_nonneg u1], la_start (by omega), by omega, by omega, by omega, Below.refl _ _⟩
  case round =>
    obtain ⟨k, run, best, rfl, rfl, rfl, hr, hk1, hk2, hbk, hbw⟩ := hrel
    obtain ⟨q1, q2⟩ := bcell hbw
    have hrb := hr.out.2.1
    by_cases hlt : (k : Int) < h1
    · have hL := U3.out (by omega)
      have hkL : k < L.length := by omega
      obtain ⟨d0, d1, d2, d3⟩ := HC.out k hkL
      have k0 : (0 : Int) ≤ k := by omega
      have k1 : (k : Int) < L.length := by omega
      have rn2 : (run : Int) ≤ 256 := by omega
      have bn2 : (best : Int) ≤ 256 := by omega
      rw [← q1 _ _ hg] at d0 d1 d2 d3
      rw [← q1 _ _ hb] at c0
      have hfr := frB_in hkL
      generalize L[k] = r at *
      have HF := Lib.hid hfr
      clear hfr q1 q2
      go_wp2_with fail
      refine (free_any r _).mono ?_
      rintro e w1 ⟨rfl, hb1⟩
      have hB := b_call hbw hb1
      cases hz : isZ r with
      | true =>
        have ht : frB L k = true := by rw [HF.out, hz]
        have hla := Lib.hid (la_free hr.out hkL hlt ht)
        by_cases hm : best < run + 1
        · have hmx2 : max best (run + 1) = run + 1 := by omega
          rw [hmx2] at hla
          have HM := Lib.hid hmx2; clear hmx2
          have t1 : (best : Int) < run + 1 := by omega
          go_wp2_with fail
          go_roundw
          case rel => exact ⟨k + 1, run + 1, run + 1, by go_num, by go_num, by go_num, hla, by omega, by omega, by omega, hB⟩
          case measure => simp only [intOf]; omega
        · have hmx2 : max best (run + 1) = best := by omega
          rw [hmx2] at hla
          have HM := Lib.hid hmx2; clear hmx2
          go_wp2_with fail
          go_roundw
          case rel => exact ⟨k + 1, run + 1, best, rfl, by go_num, by go_num, hla, by omega, by omega, by omega, hB⟩
          case measure => simp only [intOf]; omega
      | false =>
        have ht : frB L k = false := by rw [HF.out, hz]
        have hla := Lib.hid (la_full hr.out ht)
        go_wp2_with fail
        all_goals
          go_roundw
          case rel => exact ⟨k + 1, 0, best, by first | rfl | (congr 1; omega), rfl, by go_num, hla, by omega, by omega, by omega, hB⟩
          case measure => simp only [intOf]; omega
    · go_wp2_with fail
      go_ret
      exact ⟨best, HE2.out _ (la_end hr.out (by omega)), rfl, hbw⟩
theorem down_out {L : List Row4} {k : Nat} (h : L.length ≤ k) : downI L k = k := by
  have e : L.getD k zr = zr := by rw [List.getD_eq_getElem?_getD, List.getElem?_eq_none h]; rfl
  cases k with
  | zero => unfold downI; rw [e]; rfl
  | succ k => unfold downI; rw [e]; rfl
theorem rowI_nat (L : List Row4) (k : Nat) : rowI L (k : Int) = L.getD k zr := by unfold rowI; rw [if_pos (by omega), Int.toNat_natCast]
/-- What 'Head' answers: down over the tails. -/
def headI (L : List Row4) (a : Int) : Int := if a < 0 then -1 else (if isF (rowI L (downI L a.toNat)).k = true then downI L a.toNat else -1)
theorem thead_any {w : World} {b g cap : Nat} {L : List Row4} (h : TabAt w b g cap L) (a : Int) (ha : a ≤ 9223372036854775807) : Calls Try.prog 11 #[tp b, .int .i64 a] w fun e w' => e = .returned (.tuple #[.int .i64 (atR (headI L a)), .bool (okR (headI L a))]) ∧ Below w.heap.size w w' := by
  have hb := h.hd.1
  have HR : Hid (∀ a w', Below w.heap.size w w' → Calls Try.prog 12 #[tp b, .int .i64 a] w' fun e w2 => e = .returned (agg4 (rowI L a)) ∧ Below w'.heap.size w' w2) := Lib.hid (fun a w' hb => trow_any (tab_below h hb) a)
  clear h
  rcases (show a < 0 ∨ ∃ m : Nat, a = m by
    rcases (show a < 0 ∨ 0 ≤ a by omega) with q | q
    · exact Or.inl q
    · exact Or.inr ⟨a.toNat, by omega⟩) with q | ⟨m, rfl⟩
  · have e1 : headI L a = -1 := by unfold headI; rw [if_pos q]
    have e2 : rowI L a = zr := rowI_neg q
    rw [e1]
    clear e1
    have HE := Lib.hid e2; clear e2
    unfold tp at *
    go_enter Try.func11, Try.ntmps11
    go_wp2_with fail
    go_loopw [1] (fun i wr => i = .int .i64 a ∧ Below w.heap.size w wr) (fun _ _ => 0)
    case atStart => exact ⟨rfl, Below.refl _ _⟩
    case round =>
      obtain ⟨rfl, hbw⟩ := hrel
      go_wp2_with fail
      refine (HR.out _ _ hbw).mono ?_
      rintro e w1 ⟨rfl, hb1⟩
      rw [HE.out]
      unfold agg4 zr
      have hB1 := b_call hbw hb1
      go_wp2_with fail
      refine (HR.out _ _ hB1).mono ?_
      rintro e w2 ⟨rfl, hb2⟩
      rw [HE.out]
      have hB2 := b_call hB1 hb2
      go_wp2_with fail
      refine (first_any zr _).mono ?_
      rintro e w3 ⟨rfl, hb3⟩
      have hB3 := b_call hB2 hb3
      rw [show isF zr.k = false from rfl]
      go_wp2_with fail
      go_ret2
      exact ⟨rfl, hB3⟩
  · have HH : Hid (headI L (m : Int) = if isF (rowI L (downI L m)).k = true then downI L m else -1) := by
      show headI L (m : Int) = _
      unfold headI; rw [if_neg (by omega), Int.toNat_natCast]
    generalize headI L (m : Int) = hh at *
    unfold tp at *
    go_enter Try.func11, Try.ntmps11
    go_wp2_with fail
    go_loopw [1] (fun i wr => ∃ j : Int, i = .int .i64 j ∧ -1 ≤ j ∧ j ≤ m ∧ Hid (downI L m = if j < 0 then -1 else downI L j.toNat) ∧ Below w.heap.size w wr) (fun i _ => (intOf i + 1).toNat)
    case atStart => exact ⟨m, rfl, by omega, by omega, by show _ = _; rw [if_neg (by omega), Int.toNat_natCast], Below.refl _ _⟩
    case round =>
      obtain ⟨j, rfl, hj1, hj2, hj, hbw⟩ := hrel
      go_wp2_with fail
      refine (HR.out _ _ hbw).mono ?_
      rintro e w1 ⟨rfl, hb1⟩
      have hB1 := b_call hbw hb1
      by_cases h3 : (rowI L j).k = 3
      · have hj0 : 0 ≤ j := by
          rcases (show 0 ≤ j ∨ j < 0 by omega) with z | z
          · exact z
          · rw [rowI_neg z] at h3; cases h3
        have hdn : Hid (downI L m = if j - 1 < 0 then -1 else downI L (j - 1).toNat) := by
          show _ = _
          have z := hj.out
          rw [if_neg (by omega)] at z
          obtain ⟨n, rfl⟩ : ∃ n : Nat, j = n := ⟨j.toNat, by omega⟩
          rw [rowI_nat] at h3
          rw [Int.toNat_natCast] at z
          rw [z]
          cases n with
          | zero => unfold downI; rw [if_pos h3, if_pos (by omega)]
          | succ n => rw [if_neg (by omega), show (((n + 1 : Nat) : Int) - 1).toNat = n by omega]; show (if (L.getD (n + 1) zr).k = 3 then downI L n else _) = _; rw [if_pos h3]
        have t3 : ((rowI L j).k == 3) = true := by rw [beq_iff_eq]; exact h3
        clear h3
        generalize rowI L j = r at *
        unfold agg4
        go_wp2_with fail
        go_roundw
        case rel => exact ⟨j - 1, rfl, by omega, by omega, hdn, hB1⟩
        case measure => simp only [intOf]; omega
      · have hdn : downI L m = j := by
          have z := hj.out
          rcases (show j < 0 ∨ 0 ≤ j by omega) with q | q
          · rw [if_pos q] at z; omega
          · rw [if_neg (by omega)] at z
            obtain ⟨n, rfl⟩ : ∃ n : Nat, j = n := ⟨j.toNat, by omega⟩
            rw [rowI_nat] at h3
            rw [Int.toNat_natCast] at z
            rw [z]
            cases n with
            | zero => unfold downI; rw [if_neg h3]; rfl
            | succ n => show (if (L.getD (n + 1) zr).k = 3 then downI L n else _) = _; rw [if_neg h3]
        have HH2 : Hid (hh = if isF (rowI L j).k = true then j else -1) := by have := HH.out; rw [hdn] at this; exact this
        have t3 : ((rowI L j).k == 3) = false := by rw [beq_eq_false_iff_ne]; exact h3
        have HD := Lib.hid hdn
        clear h3 hj HH hdn
        have hneg : Hid (j < 0 → isF (rowI L j).k = false) := Lib.hid (fun q => by rw [rowI_neg q]; rfl)
        have hr2 := HR.out j _ hB1
        generalize rowI L j = r at *
        have HR2 := Lib.hid hr2; clear hr2 HR
        unfold agg4
        go_wp2_with fail
        refine HR2.out.mono ?_
        rintro e w2 ⟨rfl, hb2⟩
        have hB2 := b_call hB1 hb2
        go_wp2_with fail
        refine (first_any r _).mono ?_
        rintro e w3 ⟨rfl, hb3⟩
        have hB3 := b_call hB2 hb3
        cases hf : isF r.k with
        | true =>
          have hj0 : 0 ≤ j := by
            rcases (show 0 ≤ j ∨ j < 0 by omega) with q | q
            · exact q
            · have := hneg.out q; rw [hf] at this; cases this
          have e1 : hh = j := by have := HH2.out; rw [hf, if_pos rfl] at this; exact this
          have HE1 := Lib.hid e1; clear e1
          go_wp2_with fail
          go_ret2
          rw [HE1.out, show atR j = j by unfold atR; rw [if_pos hj0], show okR j = true by unfold okR; exact decide_eq_true hj0]
          exact ⟨rfl, hB3⟩
        | false =>
          have e1 : hh = -1 := by have := HH2.out; rw [hf] at this; simpa using this
          have HE1 := Lib.hid e1; clear e1
          go_wp2_with fail
          go_ret2
          rw [HE1.out]
          exact ⟨rfl, hB3⟩
end Go.Proofs.Ytfbdnjmljdfjjaa
