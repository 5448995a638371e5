/- QuarOrder's walk. No conditions. -/
import Derived.Test.YtakcodbbecdfkaaQuarLaw
namespace Go.Proofs.Ytakcodbbecdfkaa
open Go.RowKit
set_option linter.unusedVariables false
set_option linter.unusedSimpArgs false
theorem drop_take_snoc (ys : List Int) (k : Nat) (h : k < ys.length) : ys.take (k + 1) = ys.take k ++ [ys.getD k 0] := (take_snocI ys k h).symm
set_option maxHeartbeats 1000000 in
theorem quarOrder_any (most : Int) (u : Value) (xs : List Int) (w : World) (h : ReadI w u xs) :
    Calls Try.prog 7 #[.int .i64 most, u] w fun e w' => e = .returned (.bool true) ∧ Below w.heap.size w w' := by
  obtain ⟨a, cap, rfl⟩ := readI_len h
  obtain ⟨m, hm⟩ : ∃ m : Nat, (m : Int) = mostI most := ⟨(mostI most).toNat, Int.toNat_of_nonneg (mostI_bd most).1⟩
  have hm2 : (mostI most).toNat = m := by omega
  have hm64 : m ≤ 64 := by have := mostI_bd most; omega
  have HM := Lib.hid hm; have HM2 := Lib.hid hm2; clear hm hm2
  by_cases hl : (150 : Int) < xs.length
  have hr := readI_take h (show 150 ≤ xs.length by omega)
  have hy : (xs.take 150).length ≤ 150 := by simp; omega
  have hc0 : xs.length ≤ cap := by obtain ⟨_, _, e, h1, _⟩ := h; cases e; exact h1
  have hc1 : (150 : Int) ≤ cap := by omega
  have hc2 : 150 ≤ cap := by omega
  have hy0 : (xs.take 150).length ≤ 150 := by simp; omega
  generalize xs.take 150 = ys at hr hy hy0
  go_enter Try.func7, Try.ntmps7
  go_wp2_with fail
  clear h hl hc0 hc1 hc2
  generalize Value.slice a 150 cap = u at *
  generalize Value.slice a xs.length cap = u0 at *
  rotate_left
  have hr := h
  have hy : xs.length ≤ 150 := by omega
  clear h
  go_enter Try.func7, Try.ntmps7
  go_wp2_with fail
  clear hl
  obtain ⟨ys, hys⟩ : ∃ ys, ys = xs := ⟨_, rfl⟩
  rw [← hys] at hr hy
  rw [← hys]
  clear hys
  generalize Value.slice a ys.length cap = u at *
  rotate_left
  all_goals
    obtain ⟨a2, cap2, hu⟩ := readI_len hr
    subst hu
    have hy2 : (ys.length : Int) ≤ 150 := by omega
    refine (qnew_any most _).mono ?_
    rintro e w1 ⟨rfl, q1, b1⟩
    rw [HM2.out] at q1
    have hr1 := readI_below hr b1
    obtain ⟨b, hb0⟩ : ∃ b, b = w.heap.size := ⟨_, rfl⟩
    rw [← hb0] at q1
    rw [← hb0]
    have hbw : w.heap.size ≤ b := by omega
    have HB := Lib.hid hb0; clear hb0
    go_wp2_with fail
    go_loopw [6, 23] (fun v i wr => ∃ k q o, k ≤ ys.length ∧ i = .int .i64 (k : Nat) ∧ QL wr b m q ∧ OwnI wr (b + 1) v o ∧ Below w.heap.size w wr ∧ Hid (o ++ q = ys.take k)) (fun _ i _ => ys.length - (intOf i).toNat)
    case atStart => exact ⟨0, [], [], Nat.zero_le _, rfl, q1, ownI_nil _ _, b1, rfl⟩
    case round =>
      obtain ⟨k, q, o, hk, rfl, hq, ho, hb, hi⟩ := hrel
      by_cases hlt : k < ys.length
      · obtain ⟨bl, off, cp, e, c1, c2, c3, c4⟩ := readI_pos (readI_below hr hb) (by omega)
        cases e
        have hc := c4 k hlt
        clear c4
        obtain ⟨x, hx⟩ : ∃ x, x = ys.getD k 0 := ⟨_, rfl⟩
        rw [← hx] at hc
        have HX := Lib.hid hx; clear hx
        have hol : o.length ≤ 150 := by have h1 := hi.out; have h2 := congrArg List.length h1; simp at h2; omega
        have hne : u6.ownBlock = none ∨ u6.ownBlock ≠ some b := Or.inr (fun e => by have := (ownI_lt ho b e).1; omega)
        have hne' : u6.ownBlock ≠ some b := fun e => by have := (ownI_lt ho b e).1; omega
        go_wp2_with fail
        refine (qput_any b m q x _ hq).mono ?_
        rintro e w2 ⟨rfl, hq2, hg2⟩
        have ho2 := ownI_kept ho hg2 hne
        have hb2 := b_gb hb hg2 hbw
        have hlb := ql_lt hq2
        cases hp : putB m q with
        | false =>
          have HP := Lib.hid hp
          go_wp2
          go_roundw
          case rel =>
            refine ⟨k + 1, putL m q x, o, by omega, rfl, hq2, ho2, hb2, ?_⟩
            have e1 : putL m q x = q ++ [x] := by unfold putL; rw [if_pos (by have := HP.out; unfold putB at this; simpa using this)]
            show o ++ putL m q x = _
            rw [e1, drop_take_snoc ys k hlt, ← hi.out, ← HX.out, List.append_assoc]
          case measure => simp [intOf]; omega
        | true =>
          have HP := Lib.hid hp
          go_wp2_with (at_builtin; refine appendI rfl _ _ rfl (b + 1) _ o rfl (ownI_alloc ho2 _) _ [putO m q x] rfl (read_one w2 (putO m q x)) ?c1 ?c2 ?_; (case c1 => (simp; omega)); (case c2 => (simp; omega)); intro v3 w3 hown3 hg3)
          have hq3 : QL w3 b m (putL m q x) := ql_kept (ql_below hq2 (b_alloc (Below.refl _ _) _)) hg3 hne'
          have hb3 : Below w.heap.size w w3 := b_own (b_alloc hb2 _) (ownI_mono (ownI_alloc ho2 _) (by omega)) hg3
          go_roundw
          case rel =>
            refine ⟨k + 1, putL m q x, o ++ [putO m q x], by omega, rfl, hq3, hown3, hb3, ?_⟩
            have e0 : ¬ q.length < m := by have := HP.out; unfold putB at this; simpa using this
            have e1 : [putO m q x] ++ putL m q x = q ++ [x] := by
              unfold putO putL; rw [if_neg e0, if_neg e0]; cases q <;> rfl
            show (o ++ [putO m q x]) ++ putL m q x = _
            rw [List.append_assoc, e1, drop_take_snoc ys k hlt, ← hi.out, ← HX.out, List.append_assoc]
          case measure => simp [intOf]; omega
      · have hall : o ++ q = ys := by have h1 := hi.out; rw [List.take_of_length_le (by omega)] at h1; exact h1
        have HI := Lib.hid hall; clear hall hi
        have hqm : q.length ≤ m := by obtain ⟨_, _, _, _, h3, _⟩ := hq; exact h3
        have hqm2 : (q.length : Int) ≤ m := by omega
        have hqd : decide (m < q.length) = false := decide_eq_false (by omega)
        go_wp2_with fail
        refine (qlen_list b m q _ hq).mono ?_
        rintro e w2 ⟨rfl, rfl⟩
        go_wp2_with fail
        refine (rqmost_any most _).mono ?_
        rintro e w2 ⟨rfl, rfl⟩
        rw [← HM.out]
        go_wp2_with fail
        go_loopw [6, 11] (fun v i wr => ∃ (k : Nat) (q o : List Int), k ≤ 70 ∧ i = .int .i64 (k : Nat) ∧ q.length ≤ 64 - k ∧ QL wr b m q ∧ OwnI wr (b + 1) v o ∧ Below w.heap.size w wr ∧ Hid (o ++ q = ys)) (fun _ i _ => 70 - (intOf i).toNat)
        case atStart => exact ⟨0, q, o, by omega, rfl, by omega, hq, ho, hb, HI.out⟩
        case round =>
          obtain ⟨k, q, o, hk, rfl, hqk, hq, ho, hb, hi⟩ := hrel
          by_cases hlt : k < 70
          · have hol : o.length ≤ 150 := by have h1 := hi.out; have h2 := congrArg List.length h1; simp at h2; omega
            have hne : ∀ v : Value, OwnI wr (b + 1) v o → (v.ownBlock = none ∨ v.ownBlock ≠ some b) := fun v hv => Or.inr (fun e => by have := (ownI_lt hv b e).1; omega)
            have hne1 := hne _ ho
            have hne' : ∀ v : Value, OwnI wr (b + 1) v o → v.ownBlock ≠ some b := fun v hv e => by have := (ownI_lt hv b e).1; omega
            have hne2 := hne' _ ho
            clear hne hne'
            go_wp2_with fail
            refine (qtake_any b m q _ hq).mono ?_
            rintro e w2 ⟨rfl, hq2, hg2⟩
            have ho2 := ownI_kept ho hg2 hne1
            have hb2 := b_gb hb hg2 hbw
            have hlb := ql_lt hq2
            cases q with
            | nil =>
              go_wp2
              go_roundw
              case rel => exact ⟨k + 1, [], o, by omega, rfl, by simp, hq2, ho2, hb2, hi⟩
              case measure => simp [intOf]; omega
            | cons x t =>
              go_wp2_with (at_builtin; refine appendI rfl _ _ rfl (b + 1) _ o rfl (ownI_alloc ho2 _) _ [x] rfl (read_one w2 x) ?c1 ?c2 ?_; (case c1 => (simp; omega)); (case c2 => (simp; omega)); intro v3 w3 hown3 hg3)
              have hq3 : QL w3 b m t := ql_kept (ql_below hq2 (b_alloc (Below.refl _ _) _)) hg3 hne2
              have hb3 : Below w.heap.size w w3 := b_own (b_alloc hb2 _) (ownI_mono (ownI_alloc ho2 _) (by omega)) hg3
              go_roundw
              case rel => exact ⟨k + 1, t, o ++ [x], by omega, rfl, by simp at hqk; omega, hq3, hown3, hb3, by show (o ++ [x]) ++ t = ys; rw [← hi.out]; simp⟩
              case measure => simp [intOf]; omega
          · have h0 : q = [] := List.eq_nil_of_length_eq_zero (by omega)
            subst h0
            have hoy : o = ys := by have := hi.out; simpa using this
            subst hoy
            clear hi
            go_wp2_with fail
            refine (same11_any _ _ o o _ (ownI_read ho) (readI_below hr hb) (by omega) (by omega)).mono ?_
            rintro e w5 ⟨rfl, hb5⟩
            go_wp2_with fail
            refine (qlen_list b m [] _ (ql_below hq hb5)).mono ?_
            rintro e w6 ⟨rfl, rfl⟩
            go_wp2_with fail
            refine (awake11_any _).mono ?_
            rintro e w7 ⟨rfl, hb7⟩
            go_wp2
            go_ret
            exact ⟨rfl, b_call (b_call hb hb5) hb7⟩
end Go.Proofs.Ytakcodbbecdfkaa
