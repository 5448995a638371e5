/- quar's All and Has; slices.Contains at ints. Conditions: the list fits the ring; slices read as lists. -/
import Derived.Test.YtakcodbbecdfkaaQuar
import Derived.Test.YtakcodbbecdfkaaInts
namespace Go.Proofs.Ytakcodbbecdfkaa
open Go.RowKit
set_option linter.unusedVariables false
set_option linter.unusedSimpArgs false
theorem qat_below {w w' : World} {b : Nat} {R : Nat → Int} {f c m : Nat} (h : QAt w b R f c m) (hb : Below w.heap.size w w') : QAt w' b R f c m :=
  ⟨fun i hi => (hb.cell (p := ⟨b, i, none⟩) h.lt).trans (h.ring i hi), (hb.cell (p := ⟨b, 65, none⟩) h.lt).trans h.fr, (hb.cell (p := ⟨b, 66, none⟩) h.lt).trans h.cn, (hb.cell (p := ⟨b, 67, none⟩) h.lt).trans h.ms,
    fun i => (hb.frozen (p := ⟨b, i, none⟩) h.lt).trans (h.free i), Nat.lt_of_lt_of_le h.lt hb.size⟩
theorem ql_below {w w' : World} {b m : Nat} {xs : List Int} (h : QL w b m xs) (hb : Below w.heap.size w w') : QL w' b m xs := by
  obtain ⟨R, f, hq, h'⟩ := h
  exact ⟨R, f, qat_below hq hb, h'⟩
theorem take_snocI (xs : List Int) (k : Nat) (h : k < xs.length) : xs.take k ++ [xs.getD k 0] = xs.take (k + 1) := by
  rw [List.take_succ_eq_append_getElem h, List.getD_eq_getElem?_getD, List.getElem?_eq_getElem h]; rfl
theorem ring_pre (f c i : Nat) (hf : f < 65) (hcm : c ≤ 64) (hi : i = (f + c) % 65) :
    i < 65 ∧ IntKind.i64.wrap ((f : Int) + (c : Int)) = (f : Int) + (c : Int) ∧ ((f : Int) + (c : Int)).tmod 65 = (i : Int) ∧ ((f : Int) + (c : Int)) % 65 = (i : Int) ∧ (0 : Int) ≤ i ∧ (i : Int) < 65 := by
  refine ⟨by omega, IntWalk.i64_in _ (by omega), ?_, by omega, by omega, by omega⟩
  rw [IntWalk.rem_in _ _ (by omega)]; omega
set_option maxHeartbeats 400000 in
theorem qall_any (b m : Nat) (xs : List Int) (w : World) (h : QL w b m xs) : Calls Try.prog 44 #[ptr b] w (RetOwnI w xs) := by
  obtain ⟨R, f, hq, hf, hl, hm, hR⟩ := h
  obtain ⟨i0, hi, hz0, hz1, hz2⟩ := info_parts Try.infoInt
  have hlen := qlen_any b R f xs.length m w hq
  have hlt := hq.lt
  have HQ := Lib.hid hq
  have HR := Lib.hid hR
  clear hq hR
  have hf2 : (f : Int) < 65 := by omega
  have hl2 : (xs.length : Int) ≤ 64 := by omega
  unfold ptr at *
  go_enter Try.func44, Try.ntmps44
  go_wp2_with fail
  refine hlen.mono ?_
  rintro e w' ⟨rfl, rfl⟩
  clear hlen
  go_wp2_with fail
  go_loopw [3, 7] (fun v i wr => ∃ k : Nat, k ≤ xs.length ∧ i = .int .i64 k ∧ OwnI wr w.heap.size v (xs.take k) ∧ Below w.heap.size w wr) (fun _ i _ => xs.length - (intOf i).toNat)
  case atStart => exact ⟨0, by omega, rfl, ownI_nil _ _, Below.refl _ _⟩
  case round =>
    obtain ⟨k, hk, rfl, hown, hb⟩ := hrel
    by_cases hlk : k < xs.length
    · obtain ⟨j, hj⟩ : ∃ j, j = (f + k) % 65 := ⟨_, rfl⟩
      have hq := qat_below HQ.out hb
      obtain ⟨j0, r1, r2, r3, p1, p2⟩ := ring_pre f k j hf (by omega) hj
      have h2 := hq.ring j j0
      have h3 := hq.fr
      have hRk : R j = xs.getD k 0 := by rw [hj]; exact HR.out k hlk
      rw [hRk] at h2
      clear hq hRk
      clear hj
      obtain ⟨x, hx⟩ : ∃ x, x = xs.getD k 0 := ⟨_, rfl⟩
      rw [← hx] at h2
      have HX := Lib.hid hx
      clear hx
      go_wp2_with fail
      have hne : u3.ownBlock ≠ some b := fun e => by have := (ownI_lt hown b e).1; omega
      have hbw : b < wr.heap.size := by have := hb.size; omega
      go_region_held3 (fun w' => w'.cell? ⟨b, j, none⟩ = some (.int .i64 x) ∧ w'.cell? ⟨b, 65, none⟩ = some (.int .i64 f))
        (first | go_keep | (refine ⟨?_, ?_⟩ <;> (rw [hg1.cell_far _ (by simp; omega) (Ne.symm hne)]; simp [*, World.cell?_alloc_some])))
        ((refine step_appendI (by rfl) _ _ (by rfl) w.heap.size _ (xs.take k) (by rfl) (ownI_alloc (ownI_drew hown) _) _ [x] (by rfl) (read_one wr.drew x) ?c1 ?c2 ?_; (case c1 => (simp; omega)); (case c2 => (have := hb.size; simp; omega)); intro v' w1 hown1 hg1))
      have hb1 : Below w.heap.size w w1 := b_own (b_drew (b_alloc hb _)) (ownI_drew (ownI_alloc hown _)) hg1
      have hx1 : OwnI w1 w.heap.size v' (xs.take (k + 1)) := by rw [← take_snocI xs k hlk, ← HX.out]; exact hown1
      go_wp2
      go_roundw
      case rel => exact ⟨k + 1, by omega, rfl, hx1, hb1⟩
      case measure => simp [intOf]; omega
    · go_wp2
      go_ret
      refine ⟨_, rfl, ?_, hb⟩
      rw [List.take_of_length_le (by omega)] at hown
      exact hown
/-- The first place of a number; -1: none. -/
def idxI : List Int → Int → Nat → Int
  | [], _, _ => -1
  | y :: t, x, k => if x = y then (k : Int) else idxI t x (k + 1)
theorem idxI_drop (xs : List Int) (x : Int) (k : Nat) (h : k < xs.length) : idxI (xs.drop k) x k = if x = xs.getD k 0 then (k : Int) else idxI (xs.drop (k + 1)) x (k + 1) := by
  rw [List.drop_eq_getElem_cons h, List.getD_eq_getElem?_getD, List.getElem?_eq_getElem h]; rfl
theorem idxI_end (xs : List Int) (x : Int) (k : Nat) (h : xs.length ≤ k) : idxI (xs.drop k) x k = -1 := by
  rw [List.drop_eq_nil_of_le h]; rfl
theorem idxI_mem (xs : List Int) (x : Int) : ∀ k, 0 ≤ idxI xs x k ↔ x ∈ xs := by
  induction xs with
  | nil => intro k; simp [idxI]
  | cons y t ih =>
    intro k; unfold idxI; split
    · rename_i e; subst e; simp
    · rename_i e; rw [ih (k + 1)]; simp [e]
theorem sidx_any (u : Value) (ys : List Int) (x : Int) (w : World) (h : ReadI w u ys) : Calls Try.prog 49 #[u, .int .i64 x] w fun e w' => e = .returned (.int .i64 (idxI ys x 0)) ∧ w = w' := by
  by_cases h0 : ys.length = 0
  · obtain ⟨a, cap, rfl⟩ := readI_len h
    obtain rfl := List.eq_nil_of_length_eq_zero h0
    clear h h0
    go_enter Try.func49, Try.ntmps49
    go_wp2
    go_loop [8] (fun i => i = .int .i64 0) (fun _ => 0)
    case atStart => rfl
    case round =>
      subst hrel
      go_wp2
      go_ret
      exact ⟨rfl, rfl⟩
  · obtain ⟨b, o, cap, rfl, h1, h2, h3, h4⟩ := readI_pos h (by omega)
    clear h h0
    have hm : (ys.length : Int) ≤ 9223372036854775807 := by have := cap_le h2; omega
    go_enter Try.func49, Try.ntmps49
    go_wp2
    go_loop [8] (fun i => ∃ k : Nat, k ≤ ys.length ∧ i = .int .i64 k ∧ Hid (idxI ys x 0 = idxI (ys.drop k) x k)) (fun i => ys.length - (intOf i).toNat)
    case atStart => exact ⟨0, Nat.zero_le _, rfl, rfl⟩
    case round =>
      obtain ⟨k, hk, rfl, hi⟩ := hrel
      by_cases hlt : k < ys.length
      · have hc := h4 k hlt
        have hd := Lib.hid (idxI_drop ys x k hlt)
        clear h4
        generalize ys.getD k 0 = y at hc hd
        by_cases hxy : x = y
        · have t : (x == y) = true := by rw [hxy]; simp
          have E := Lib.hid hxy; clear hxy
          go_wp2
          go_ret
          exact ⟨by rw [hi.out, hd.out, if_pos E.out]; rfl, rfl⟩
        · have t : (x == y) = false := beq_false_of_ne hxy
          have E := Lib.hid hxy; clear hxy
          go_wp2
          go_round
          case rel => exact ⟨k + 1, by omega, rfl, by show _ = _; rw [hi.out, hd.out, if_neg E.out]⟩
          case measure => simp [intOf]; omega
      · have he := Lib.hid (idxI_end ys x k (by omega))
        clear h4
        go_wp2
        go_ret
        exact ⟨by rw [hi.out, he.out]; rfl, rfl⟩
theorem scon_any (u : Value) (ys : List Int) (x : Int) (w : World) (h : ReadI w u ys) : Calls Try.prog 48 #[u, .int .i64 x] w fun e w' => e = .returned (.bool (decide (x ∈ ys))) ∧ w = w' := by
  have hm := idxI_mem ys x 0
  have e : decide (x ∈ ys) = decide (0 ≤ idxI ys x 0) := by rw [decide_eq_decide]; exact hm.symm
  have E := Lib.hid e; clear e hm
  have hc := sidx_any u ys x w h
  clear h
  go_enter Try.func48, Try.ntmps48
  go_wp2_with fail
  refine hc.mono ?_
  rintro e w' ⟨rfl, rfl⟩
  go_wp2
  go_ret
  exact ⟨by rw [E.out]; rfl, rfl⟩
theorem qhas_any (b m : Nat) (xs : List Int) (x : Int) (w : World) (h : QL w b m xs) : Calls Try.prog 43 #[ptr b, .int .i64 x] w fun e w' => e = .returned (.bool (decide (x ∈ xs))) ∧ Below w.heap.size w w' := by
  have hc := qall_any b m xs w h
  clear h
  go_enter Try.func43, Try.ntmps43
  go_wp2_with fail
  refine hc.mono ?_
  rintro e w1 ⟨v, rfl, hown, hb⟩
  go_wp2_with fail
  refine (scon_any v xs x _ (ownI_read hown)).mono ?_
  rintro e w2 ⟨rfl, rfl⟩
  go_wp2
  go_ret
  exact ⟨rfl, hb⟩
end Go.Proofs.Ytakcodbbecdfkaa
