/- Layer 4's references: over lists of rows. Conditions: at most 256 rows. -/
import Derived.Test.YtfbdnjmljdfjjaaPage4
namespace Go.Proofs.Ytfbdnjmljdfjjaa
open Go.RowKit
set_option linter.unusedVariables false
set_option linter.unusedSimpArgs false
attribute [local go_sem] over_cell over_frozen
theorem rowRT : IsRow Try.prog 25 28 4 32 (agg4 zr) := ⟨Try.underlying25, by kernel_rfl, by rfl⟩
/-- The document's rows: in block g. -/
structure RL (w : World) (g cap : Nat) (L : List Row4) : Prop where
  rw : Blk w g (quad.row L)
  le : L.length ≤ cap
  cp : cap ≤ maxLen
  mx : L.length ≤ 256
def rv (g : Nat) (L : List Row4) (cap : Nat) : Value := .slice (some ⟨g, 0, none⟩) L.length cap
theorem rl_below {w w' : World} {g cap : Nat} {L : List Row4} (h : RL w g cap L) (hb : Below w.heap.size w w') : RL w' g cap L := ⟨blk_below h.rw hb, h.le, h.cp, h.mx⟩
theorem rl_grown {w w' : World} {g cap : Nat} {L : List Row4} {r : Option Nat} (h : RL w g cap L) (hb : w.grownBy w' r) (hn : some g ≠ r) : RL w' g cap L := ⟨blk_grown h.rw hb hn, h.le, h.cp, h.mx⟩
theorem rl_cells {w : World} {g cap : Nat} {L : List Row4} (h : RL w g cap L) (k : Nat) (hk : k < L.length) : w.cell? ⟨g, k * 4, none⟩ = some (.int .i64 L[k].k) ∧ w.cell? ⟨g, k * 4 + 1, none⟩ = some (.int .i64 L[k].c) ∧ w.cell? ⟨g, k * 4 + 2, none⟩ = some (.int .i64 L[k].o) ∧ w.cell? ⟨g, k * 4 + 3, none⟩ = some (.int .i64 L[k].n) := by
  obtain ⟨b', o, cap', e, _, _, _, h4⟩ := readR_pos (readR_blk (c := quad) h.rw h.le h.cp) (by omega)
  cases e
  have q0 := h4 k hk 0 (by decide)
  have q1 := h4 k hk 1 (by decide)
  have q2 := h4 k hk 2 (by decide)
  have q3 := h4 k hk 3 (by decide)
  rw [Nat.zero_add] at q0 q1 q2 q3
  exact ⟨q0, q1, q2, q3⟩
def NewL (w : World) (L : List Row4) (e : Ending) (w' : World) : Prop := ∃ g cap, e = .returned (rv g L cap) ∧ RL w' g cap L ∧ w.heap.size ≤ g ∧ Below w.heap.size w w'
theorem ours_any (r : Row4) (w : World) : Calls Try.prog 23 #[agg4 r] w fun e w' => e = .returned (agg4 r) ∧ Below w.heap.size w w' := by
  unfold agg4
  go_enter Try.func23, Try.ntmps23
  go_wp2_with fail
  exact bodyPost_ret (v := agg4 r) (by simp [results, Try.results23, go_sem]; rfl) rfl ⟨rfl, by (try simp); (repeat' (first | exact Below.refl _ _ | assumption | refine b_alloc ?_ _ | refine b_over ?_ _ | refine b_drew ?_ | refine b_call ?_ (by assumption)))⟩
theorem rfst_any (k : Int) (w : World) : Calls Try.prog 27 #[.int .i64 k] w fun e w' => e = .returned (.bool (isF k)) ∧ w = w' := by
  rcases (show k = 1 ∨ k = 2 ∨ k = 4 ∨ isF k = false by rw [isF_not]; omega) with rfl | rfl | rfl | h
  · go_enter Try.func27, Try.ntmps27
    go_wp2_with fail
    go_ret
    exact ⟨rfl, rfl⟩
  · go_enter Try.func27, Try.ntmps27
    go_wp2_with fail
    go_ret
    exact ⟨rfl, rfl⟩
  · go_enter Try.func27, Try.ntmps27
    go_wp2_with fail
    go_ret
    exact ⟨rfl, rfl⟩
  · have h1 : (k == 1) = false := by rw [isF_not] at h; simpa using h.1
    have h2 : (k == 2) = false := by rw [isF_not] at h; simpa using h.2.1
    have h4 : (k == 4) = false := by rw [isF_not] at h; simpa using h.2.2
    rw [h]
    clear h
    go_enter Try.func27, Try.ntmps27
    go_wp2_with fail
    go_ret
    exact ⟨rfl, rfl⟩
theorem rmay_any (r : Row4) (w : World) : Calls Try.prog 24 #[agg4 r] w fun e w' => e = .returned (.bool (mayR r)) ∧ Below w.heap.size w w' := by
  obtain ⟨rk, rc, ro, rn⟩ := r
  have hB := fun o => b_alloc (Below.refl w.heap.size w) o
  have M : Hid (mayR ⟨rk, rc, ro, rn⟩ = (isF rk && decide (1 ≤ rn) && decide (rn ≤ 256))) := rfl
  unfold agg4
  simp only
  go_enter Try.func24, Try.ntmps24
  go_wp2_with fail
  refine (rfst_any _ _).mono ?_
  rintro e w1 ⟨rfl, rfl⟩
  cases hf : isF rk with
  | false =>
    rw [hf] at M
    go_wp2_with fail
    go_ret
    exact ⟨by rw [M.out]; rfl, hB _⟩
  | true =>
    rw [hf] at M
    go_wp2_with fail
    all_goals
      go_ret
      exact ⟨by rw [M.out]; exact ret_bool (by simp_all <;> (intros; omega)), hB _⟩
def inB (k lo hi : Int) : Bool := decide (lo ≤ k) && decide (k < hi)
theorem rin_any (k lo hi : Int) (w : World) : Calls Try.prog 34 #[.int .i64 k, .int .i64 lo, .int .i64 hi] w fun e w' => e = .returned (.bool (inB k lo hi)) ∧ w = w' := by
  have M : Hid (inB k lo hi = (decide (lo ≤ k) && decide (k < hi))) := rfl
  go_enter Try.func34, Try.ntmps34
  go_wp2_with fail
  all_goals
    go_ret
    exact ⟨by rw [M.out]; exact ret_bool (by simp_all <;> (intros; omega)), rfl⟩
set_option maxRecDepth 100000 in
theorem rnew_any (n : Int) (w : World) : Calls Try.prog 8 #[.int .i64 n] w (NewL w (List.replicate (sizeP n) zr)) := by
  have key : ∀ (z : Int) (m : Nat), z = m → m ≤ 256 → ∀ w : World, (Instr.makeSlice 25 (.int .i64 z) (.int .i64 z)).run Try.prog w = .ok (.slice (some ⟨w.heap.size, 0, none⟩) m m) (w.alloc (.cells (mk4 m) 28)) := fun z m hz hm w => by subst hz; exact run_makeR (c := quad) rowRT _ _ m (by omega) (by omega) w
  have hfin : ∀ m : Nat, m ≤ 256 → ∀ e, e = Ending.returned (.slice (some ⟨w.heap.size, 0, none⟩) m m) → NewL w (List.replicate m zr) e (w.alloc (.cells (mk4 m) 28)) := by
    intro m hm e he
    refine ⟨w.heap.size, m, by rw [he]; unfold rv; rw [List.length_replicate], ⟨blk_make w zr cells_zr m, by simp, by unfold maxLen; omega, by simpa using hm⟩, Nat.le_refl _, b_alloc (Below.refl _ _) _⟩
  rcases (show n < 0 ∨ (0 ≤ n ∧ 256 < n) ∨ ∃ m : Nat, n = m ∧ m ≤ 256 by
    rcases (show n < 0 ∨ (0 ≤ n ∧ 256 < n) ∨ (0 ≤ n ∧ n ≤ 256) by omega) with q | q | q
    · exact Or.inl q
    · exact Or.inr (Or.inl q)
    · exact Or.inr (Or.inr ⟨n.toNat, by omega, by omega⟩)) with q | ⟨q1, q2⟩ | ⟨m, rfl, hm⟩
  · rw [show sizeP n = 0 by unfold sizeP; rw [if_pos q]]
    have K := key 0 0 rfl (by omega)
    have F := Lib.hid (hfin 0 (by omega))
    clear key hfin
    go_enter Try.func8, Try.ntmps8
    go_wp2_with fail
    go_ret
    exact F.out _ rfl
  · rw [show sizeP n = 256 by unfold sizeP; rw [if_neg (by omega), if_pos q2]]
    have K := key 256 256 rfl (by omega)
    have F := Lib.hid (hfin 256 (by omega))
    clear key hfin
    go_enter Try.func8, Try.ntmps8
    go_wp2_with fail
    go_ret
    exact F.out _ rfl
  · rw [show sizeP (m : Int) = m by unfold sizeP; rw [if_neg (by omega), if_neg (by omega)]; omega]
    have K := key m m rfl hm
    have F := Lib.hid (hfin m hm)
    have hm1 : (m : Int) ≤ 256 := by omega
    have hm0 : (0 : Int) ≤ m := by omega
    clear key hfin
    go_enter Try.func8, Try.ntmps8
    go_wp2_with fail
    go_ret
    exact F.out _ rfl
def RPlaceRet (L : List Row4) (lo hi : Int) (n : Nat) (w : World) (e : Ending) (w' : World) : Prop := ∃ r, IsPlace L lo hi n r ∧ e = .returned (.int .i64 r) ∧ w = w'
/-- Whether a place is one, as far as it has been looked at. -/
def PlAt (L : List Row4) (lo hi : Int) (n k i : Nat) (b : Bool) : Prop := (b = true → k + n ≤ L.length ∧ ∀ j, k ≤ j → j < i → lo ≤ (j : Int) ∧ (j : Int) < hi ∧ frB L j = true) ∧ (b = false → ¬ Fits L lo hi n k)
theorem rplace_any {w : World} {g cap : Nat} {L : List Row4} (h : RL w g cap L) (lo hi : Int) (n : Nat) (hn : 1 ≤ n) (hn2 : n ≤ 256) :
    Calls Try.prog 25 #[rv g L cap, .int .i64 lo, .int .i64 hi, .int .i64 n] w (RPlaceRet L lo hi n w) := by
  have hmx : (L.length : Int) ≤ 256 := by have := h.mx; omega
  have nn1 : (1 : Int) ≤ n := by omega
  have nn2 : (n : Int) ≤ 256 := by omega
  have HC := Lib.hid (rl_cells h)
  have l0 : (0 : Int) ≤ L.length := by omega
  clear h
  unfold rv
  go_enter Try.func25, Try.ntmps25
  go_wp2_with fail
  go_loop [14] (fun i => ∃ k : Nat, i = .int .i64 k ∧ k ≤ L.length ∧ Hid (∀ j, j < k → ¬ Fits L lo hi n j)) (fun i => L.length - (intOf i).toNat)
  case atStart => exact ⟨0, rfl, by omega, fun j hj => by omega⟩
  case round =>
    obtain ⟨k, rfl, hk, hno⟩ := hrel
    have k0 : (0 : Int) ≤ k := by omega
    by_cases hlt : k < L.length
    · have k1 : (k : Int) < L.length := by omega
      obtain ⟨t, ht⟩ : ∃ t : Bool, decide ((n : Int) ≤ (L.length : Int) - k) = t := ⟨_, rfl⟩
      have hst : PlAt L lo hi n k k t := ⟨fun e => ⟨by rw [← ht, decide_eq_true_iff] at e; omega, fun j a b => by omega⟩, fun e hf => by rw [← ht, decide_eq_false_iff_not] at e; have := hf.1; omega⟩
      have HST := Lib.hid hst; clear hst
      go_wp2_with fail
      go_loop [10, 11] (fun b i => ∃ (j : Nat) (t : Bool), b = .bool t ∧ i = .int .i64 j ∧ k ≤ j ∧ j ≤ k + n ∧ (t = true → j ≤ L.length) ∧ Hid (PlAt L lo hi n k j t)) (fun b i => (match b with | .bool true => 1 | _ => 0) + (k + n - (intOf i).toNat))
      case atStart => exact ⟨k, t, rfl, rfl, by omega, by omega, fun _ => by omega, HST.out⟩
      case round =>
        obtain ⟨j, t2, rfl, rfl, hj1, hj2, hj3, hp⟩ := hrel
        cases t2 with
        | false =>
          have hnf := hp.out.2 rfl
          go_wp2_with fail
          go_round
          case rel =>
            refine ⟨k + 1, by go_num, by omega, fun i hi hf => ?_⟩
            rcases Nat.lt_or_ge i k with q | q
            · exact hno.out i q hf
            · rw [show i = k by omega] at hf; exact hnf hf
          case measure => simp only [intOf]; omega
        | true =>
          obtain ⟨hp1, hp2⟩ := hp.out.1 rfl
          have HP2 := Lib.hid hp2; clear hp2
          have hj4 := hj3 rfl
          clear hj3
          have j0 : (0 : Int) ≤ j := by omega
          have jk : (k : Int) ≤ j := by omega
          by_cases hjn : j < k + n
          · have j1 : (j : Int) < k + n := by omega
            have j2 : (j : Int) < L.length := by omega
            have hjl : j < L.length := by omega
            obtain ⟨d0, d1, d2, d3⟩ := HC.out j hjl
            have hfr := frB_in hjl
            generalize L[j] = r at *
            have HF := Lib.hid hfr
            clear hfr
            go_wp2_with fail
            refine (rin_any _ _ _ _).mono ?_
            rintro e w1 ⟨rfl, rfl⟩
            cases hin : inB j lo hi with
            | false =>
              have HNF : Hid (¬ Fits L lo hi n k) := fun hf => by
                have a1 := hf.2.1; have a2 := hf.2.2.1
                unfold inB at hin
                rw [Bool.and_eq_false_iff, decide_eq_false_iff_not, decide_eq_false_iff_not] at hin
                omega
              clear hin
              go_wp2_with fail
              go_round
              case rel => exact ⟨j + 1, false, rfl, by go_num, by omega, by omega, (fun e => by cases e), (fun e => by cases e), fun _ => HNF.out⟩
              case measure => simp only [intOf]; omega
            | true =>
              have hin2 : lo ≤ (j : Int) ∧ (j : Int) < hi := by unfold inB at hin; rw [Bool.and_eq_true, decide_eq_true_iff, decide_eq_true_iff] at hin; exact hin
              clear hin
              cases hz : isZ r with
              | true =>
                have hrz : r = zr := by
                  unfold isZ at hz; simp only [Bool.and_eq_true, beq_iff_eq, and_assoc] at hz
                  obtain ⟨a, b, c, d⟩ := hz
                  cases r; simp only at a b c d; subst a b c d; rfl
                have hrel2 : Hid (PlAt L lo hi n k (j + 1) true) := ⟨fun _ => ⟨hp1, fun i a b => by
                  rcases Nat.lt_or_ge i j with q | q
                  · exact HP2.out i a q
                  · rw [show i = j by omega]; exact ⟨hin2.1, hin2.2, by rw [HF.out, hz]⟩⟩, fun e => by cases e⟩
                subst hrz
                unfold zr at d0 d1 d2 d3
                simp only at d0 d1 d2 d3
                clear hz hp hin2
                go_wp2_with fail
                go_round
                case rel => exact ⟨j + 1, true, rfl, by go_num, by omega, by omega, fun _ => by omega, hrel2⟩
                case measure => simp only [intOf]; omega
              | false =>
                have HNF : Hid (¬ Fits L lo hi n k) := fun hf => by
                  have := hf.2.2.2 j (by omega) (by omega)
                  rw [HF.out, hz] at this; cases this
                have h4 : r.k ≠ 0 ∨ r.c ≠ 0 ∨ r.o ≠ 0 ∨ r.n ≠ 0 := by
                  unfold isZ at hz
                  simp only [Bool.and_eq_false_iff, beq_eq_false_iff_ne] at hz
                  omega
                clear hz hp hin2
                go_wp2_with fail
                all_goals first
                  | (exfalso; omega)
                  | (go_round
                     case rel => exact ⟨j + 1, false, rfl, by go_num, by omega, by omega, (fun e => by cases e), (fun e => by cases e), fun _ => HNF.out⟩
                     case measure => simp only [intOf]; omega)
          · have hfit : Hid (Fits L lo hi n k) := by
              have e : j = k + n := by omega
              have a0 := HP2.out k (by omega) (by omega)
              have a1 := HP2.out (k + n - 1) (by omega) (by omega)
              exact ⟨hp1, a0.1, by omega, fun i a b => (HP2.out i a (by omega)).2.2⟩
            have j1 : (k : Int) + n ≤ j := by omega
            clear hp
            go_wp2_with fail
            go_ret
            exact ⟨(k : Int), Or.inr ⟨k, rfl, hfit.out, fun i hi => hno.out i hi⟩, rfl, rfl⟩
    · go_wp2_with fail
      go_ret
      refine ⟨-1, Or.inl ⟨rfl, fun j hj => ?_⟩, rfl, rfl⟩
      have := hj.1
      exact hno.out j (by omega) hj
theorem rlong_any {w : World} {g cap : Nat} {L : List Row4} (h : RL w g cap L) (lo hi : Int) :
    Calls Try.prog 18 #[rv g L cap, .int .i64 lo, .int .i64 hi] w fun e w' => ∃ m : Nat, IsLong L lo hi m ∧ e = .returned (.int .i64 m) ∧ w = w' := by
  have hmx : (L.length : Int) ≤ 256 := by have := h.mx; omega
  have HP : Hid (∀ n : Nat, 1 ≤ n → n ≤ 256 → Calls Try.prog 25 #[rv g L cap, .int .i64 lo, .int .i64 hi, .int .i64 n] w (RPlaceRet L lo hi n w)) := Lib.hid (fun n a b => rplace_any h lo hi n a b)
  clear h
  unfold rv at *
  go_enter Try.func18, Try.ntmps18
  go_wp2_with fail
  go_loop [7] (fun i => ∃ m : Nat, i = .int .i64 m ∧ m ≤ L.length ∧ Hid (m = 0 ∨ ∃ k, Fits L lo hi m k)) (fun i => L.length - (intOf i).toNat)
  case atStart => exact ⟨0, rfl, by omega, Or.inl rfl⟩
  case round =>
    obtain ⟨m, rfl, hm, hf⟩ := hrel
    have m0 : (0 : Int) ≤ m := by omega
    by_cases hlt : m < L.length
    · have m1 : (m : Int) < L.length := by omega
      have HPm := HP.out (m + 1) (by omega) (by omega)
      rw [show ((m + 1 : Nat) : Int) = (m : Int) + 1 by omega] at HPm
      have HPH := Lib.hid HPm; clear HPm
      go_wp2_with fail
      refine HPH.out.mono ?_
      rintro e w1 ⟨r, hr, rfl, rfl⟩
      by_cases hr0 : 0 ≤ r
      · have HF : Hid (∃ k, Fits L lo hi (m + 1) k) := by
          rcases hr with ⟨e, _⟩ | ⟨k, e, h1, _⟩
          · omega
          · exact ⟨k, h1⟩
        clear hr
        go_wp2_with fail
        go_round
        case rel => exact ⟨m + 1, by go_num, by omega, Or.inr HF.out⟩
        case measure => simp only [intOf]; omega
      · have HF : Hid (∀ k, ¬ Fits L lo hi (m + 1) k) := by
          rcases hr with ⟨e, h1⟩ | ⟨k, e, h1, _⟩
          · exact h1
          · omega
        clear hr
        go_wp2_with fail
        go_ret
        exact ⟨m, ⟨hf.out, HF.out⟩, rfl, rfl⟩
    · go_wp2_with fail
      go_ret
      exact ⟨m, ⟨hf.out, fun k hk => by have := hk.1; omega⟩, rfl, rfl⟩
theorem rcount_any {w : World} {g cap : Nat} {L : List Row4} (h : RL w g cap L) (lo hi kind : Int) :
    Calls Try.prog 19 #[rv g L cap, .int .i64 lo, .int .i64 hi, .int .i64 kind] w fun e w' => e = .returned (.int .i64 (countI L lo hi kind)) ∧ Below w.heap.size w w' := by
  have hmx : (L.length : Int) ≤ 256 := by have := h.mx; omega
  have hg := h.rw.1
  have HC := Lib.hid (rl_cells h)
  have l0 : (0 : Int) ≤ L.length := by omega
  have HCI : Hid (countI L lo hi kind = cntT L lo hi kind L.length) := rfl
  clear h
  unfold rv
  go_enter Try.func19, Try.ntmps19
  go_wp2_with fail
  go_loopw [9, 14] (fun n i wr => ∃ k : Nat, i = .int .i64 k ∧ k ≤ L.length ∧ n = .int .i64 (cntT L lo hi kind k) ∧ Below w.heap.size w wr) (fun _ i _ => L.length - (intOf i).toNat)
  case atStart => exact ⟨0, rfl, by omega, rfl, Below.refl _ _⟩
  case round =>
    obtain ⟨k, rfl, hk, rfl, hbw⟩ := hrel
    have hcl := cnt_le L lo hi kind k
    obtain ⟨q1, q2⟩ := bcell hbw
    by_cases hlt : k < L.length
    · obtain ⟨d0, d1, d2, d3⟩ := HC.out k hlt
      have k0 : (0 : Int) ≤ k := by omega
      have k1 : (k : Int) < L.length := by omega
      have cl2 : (cntT L lo hi kind k : Int) ≤ 256 := by omega
      rw [← q1 _ _ hg] at d0 d1 d2 d3
      have hgd := getD_in hlt
      have HS : Hid (cntT L lo hi kind (k + 1) = cntT L lo hi kind k + if lo ≤ (k : Int) ∧ (k : Int) < hi ∧ L[k].k = kind then 1 else 0) := by rw [← hgd]; exact rfl
      clear hgd hcl q1 q2
      generalize L[k] = r at *
      have hB := b_alloc hbw (.cells #[.int .i64 r.k, .int .i64 r.c, .int .i64 r.o, .int .i64 r.n] 28)
      go_wp2_with fail
      refine (rin_any _ _ _ _).mono ?_
      rintro e w1 ⟨rfl, rfl⟩
      cases hin : inB k lo hi with
      | false =>
        have HNO : Hid (¬ (lo ≤ (k : Int) ∧ (k : Int) < hi ∧ r.k = kind)) := fun z => by
          unfold inB at hin
          rw [Bool.and_eq_false_iff, decide_eq_false_iff_not, decide_eq_false_iff_not] at hin
          omega
        clear hin
        go_wp2_with fail
        go_roundw
        case rel => exact ⟨k + 1, by go_num, by omega, by rw [HS.out, if_neg HNO.out]; rfl, hB⟩
        case measure => simp only [intOf]; omega
      | true =>
        have hin2 : lo ≤ (k : Int) ∧ (k : Int) < hi := by unfold inB at hin; rw [Bool.and_eq_true, decide_eq_true_iff, decide_eq_true_iff] at hin; exact hin
        have HIN := Lib.hid hin2
        clear hin hin2
        by_cases hq : r.k = kind
        · have t1 : (r.k == kind) = true := by rw [beq_iff_eq]; exact hq
          have HQ := Lib.hid hq; clear hq
          go_wp2_with fail
          go_roundw
          case rel => exact ⟨k + 1, by go_num, by omega, by rw [HS.out, if_pos ⟨HIN.out.1, HIN.out.2, HQ.out⟩]; go_num, hB⟩
          case measure => simp only [intOf]; omega
        · have t1 : (r.k == kind) = false := by rw [beq_eq_false_iff_ne]; exact hq
          have HQ := Lib.hid hq; clear hq
          go_wp2_with fail
          go_roundw
          case rel => exact ⟨k + 1, by go_num, by omega, by rw [HS.out, if_neg (fun z => HQ.out z.2.2)]; rfl, hB⟩
          case measure => simp only [intOf]; omega
    · obtain rfl : k = L.length := by omega
      go_wp2_with fail
      go_ret
      exact ⟨by rw [HCI.out]; rfl, hbw⟩
/-- The page whose Run a page belongs to. -/
def Owns (L : List Row4) (a : Int) (k : Nat) : Prop := k < L.length ∧ isF (L.getD k zr).k = true ∧ (k : Int) ≤ a ∧ a - k < (L.getD k zr).n
def IsHead (L : List Row4) (a r : Int) : Prop := (r = -1 ∧ ∀ k, ¬ Owns L a k) ∨ ∃ k : Nat, r = k ∧ Owns L a k
theorem rhead_any {w : World} {g cap : Nat} {L : List Row4} (h : RL w g cap L) (a : Int) (ha : -9223372036854775808 ≤ a ∧ a ≤ 9223372036854775807) :
    Calls Try.prog 29 #[rv g L cap, .int .i64 a] w fun e w' => ∃ r, IsHead L a r ∧ e = .returned (.int .i64 r) ∧ Below w.heap.size w w' := by
  have hmx : (L.length : Int) ≤ 256 := by have := h.mx; omega
  have hg := h.rw.1
  have HC := Lib.hid (rl_cells h)
  have l0 : (0 : Int) ≤ L.length := by omega
  clear h
  unfold rv
  go_enter Try.func29, Try.ntmps29
  go_wp2_with fail
  go_loopw [9] (fun i wr => ∃ k : Nat, i = .int .i64 k ∧ k ≤ L.length ∧ Hid (∀ j, j < k → ¬ Owns L a j) ∧ Below w.heap.size w wr) (fun i _ => L.length - (intOf i).toNat)
  case atStart => exact ⟨0, rfl, by omega, fun j hj => by omega, Below.refl _ _⟩
  case round =>
    obtain ⟨k, rfl, hk, hno, hbw⟩ := hrel
    obtain ⟨q1, q2⟩ := bcell hbw
    by_cases hlt : k < L.length
    · obtain ⟨d0, d1, d2, d3⟩ := HC.out k hlt
      have k0 : (0 : Int) ≤ k := by omega
      have k1 : (k : Int) < L.length := by omega
      rw [← q1 _ _ hg] at d0 d1 d2 d3
      have hgd := getD_in hlt
      have HO : Hid (Owns L a k ↔ isF L[k].k = true ∧ (k : Int) ≤ a ∧ a - k < L[k].n) := by
        unfold Owns; rw [hgd]; exact ⟨fun z => z.2, fun z => ⟨hlt, z⟩⟩
      clear hgd q1 q2
      generalize L[k] = r at *
      have hB := b_alloc hbw (.cells #[.int .i64 r.k, .int .i64 r.c, .int .i64 r.o, .int .i64 r.n] 28)
      have hnext : Hid (¬ Owns L a k → ∀ j, j < k + 1 → ¬ Owns L a j) := fun z j hj => by
        rcases Nat.lt_or_ge j k with q | q
        · exact hno.out j q
        · rw [show j = k by omega]; exact z
      go_wp2_with fail
      refine (rfst_any _ _).mono ?_
      rintro e w1 ⟨rfl, rfl⟩
      cases hf : isF r.k with
      | false =>
        have HNO : Hid (¬ Owns L a k) := fun z => by have := (HO.out.1 z).1; rw [hf] at this; cases this
        clear hf
        go_wp2_with fail
        go_roundw
        case rel => exact ⟨k + 1, by go_num, by omega, hnext.out HNO.out, hB⟩
        case measure => simp only [intOf]; omega
      | true =>
        have HF := Lib.hid hf; clear hf
        by_cases hka : (k : Int) ≤ a
        · by_cases hkn : a - k < r.n
          · have HYES : Hid (Owns L a k) := HO.out.2 ⟨HF.out, hka, hkn⟩
            go_wp2_with fail
            go_ret
            exact ⟨k, Or.inr ⟨k, rfl, HYES.out⟩, rfl, hB⟩
          · have HNO : Hid (¬ Owns L a k) := fun z => hkn (HO.out.1 z).2.2
            go_wp2_with fail
            go_roundw
            case rel => exact ⟨k + 1, by go_num, by omega, hnext.out HNO.out, hB⟩
            case measure => simp only [intOf]; omega
        · have HNO : Hid (¬ Owns L a k) := fun z => hka (HO.out.1 z).2.1
          go_wp2_with fail
          go_roundw
          case rel => exact ⟨k + 1, by go_num, by omega, hnext.out HNO.out, hB⟩
          case measure => simp only [intOf]; omega
    · obtain rfl : k = L.length := by omega
      go_wp2_with fail
      go_ret
      exact ⟨-1, Or.inl ⟨rfl, fun k hk => hno.out k hk.1 hk⟩, rfl, hbw⟩
end Go.Proofs.Ytfbdnjmljdfjjaa
