/- Layer 2's rows of bits: the contracts of Count, All, Copy. Conditions: at most 65536 bits; the library's table as it is laid. -/
import Derived.Test.YtfbdnjmljdfjjaaDoorBit2
namespace Go.Proofs.YtfbdnjmljdfjjaaDoor
open Go.RowKit
set_option linter.unusedVariables false
set_option linter.unusedSimpArgs false
attribute [local go_sem] over_cell over_frozen
theorem bcount_nil (w : World) : Calls Tryd.prog 18 #[.pointer none] w fun e w' => e = .returned (.int .i64 0) ∧ w = w' := by
  go_enter Tryd.func18, Tryd.ntmps18
  go_wp2_with fail
  go_ret
  exact ⟨rfl, rfl⟩
set_option maxRecDepth 100000 in
theorem bcount_any {w : World} {s g cap : Nat} {W : List Nat} {l : List Bool} (h : BitAt w s g cap W l) : Calls Tryd.prog 18 #[sp s] w fun e w' => e = .returned (.int .i64 ((cntF l l.length : Nat) : Int)) ∧ w = w' := by
  have HB := Lib.hid h
  have HE := Lib.hid (cntF_all h.bo)
  rw [← HE.out]
  obtain ⟨h0, h1, hf'⟩ := blk2 h.hd
  have wl : (W.length : Int) ≤ 1024 := by have := h.bo.len; have := h.nb; omega
  unfold sp at *
  clear h HE
  go_enter Tryd.func18, Tryd.ntmps18
  go_wp2_with fail
  go_loop [3, 14] (fun n i => ∃ k : Nat, k ≤ W.length ∧ i = .int .i64 k ∧ n = .int .i64 ((cntF l (64 * k) : Nat) : Int)) (fun _ i => W.length - (intOf i).toNat)
  case atStart => exact ⟨0, Nat.zero_le _, rfl, rfl⟩
  case round =>
    obtain ⟨k, hk, rfl, rfl⟩ := hrel
    by_cases hlt : k < W.length
    · have h2 := words_at HB.out.rw hlt
      have hx2 := Lib.hid (HB.out.bo.lt k)
      have HC := Lib.hid (cntF_word HB.out.bo k)
      have cl := cntF_le l (64 * k)
      generalize W.getD k 0 = x at *
      have pl := pop_le x
      have k0 : (0 : Int) ≤ k := by omega
      have k1 : (k : Int) < W.length := by omega
      have BO := Lib.hid (bones_any x hx2.out w)
      generalize pop x = p at *
      have c1 : (cntF l (64 * k) : Int) ≤ 66000 := by omega
      have p1 : (p : Int) ≤ 64 := by omega
      clear cl pl
      generalize cntF l (64 * k) = c at *
      go_wp2_with fail
      refine BO.out.mono ?_
      rintro e w1 ⟨rfl, rfl⟩
      go_wp2_with fail
      go_round
      case rel => exact ⟨k + 1, by omega, by go_num, by rw [HC.out]; go_num⟩
      case measure => simp only [intOf]; omega
    · have e : k = W.length := by omega
      have HE := Lib.hid e
      clear e
      go_wp2_with fail
      go_ret
      exact ⟨by rw [← HE.out]; rfl, rfl⟩
/-- Places, as a list of ints. -/
def nats (xs : List Nat) : List Int := xs.map (fun n : Nat => (n : Int))
theorem nats_length (xs : List Nat) : (nats xs).length = xs.length := by unfold nats; rw [List.length_map]
theorem nats_snoc (xs : List Nat) (k : Nat) : nats (xs ++ [k]) = nats xs ++ [(k : Int)] := by unfold nats; rw [List.map_append]; rfl
theorem nats_inj {xs ys : List Nat} (h : nats xs = nats ys) : xs = ys := by
  unfold nats at h
  exact List.map_inj_right (fun a b e => by omega) |>.1 h
def AllE (l : List Bool) (w : World) (e : Ending) (w' : World) : Prop := ∃ v, e = .returned v ∧ OwnI w' w.heap.size v (nats (allF l 0)) ∧ Below w.heap.size w w'
theorem ball_nil (w : World) : Calls Tryd.prog 19 #[.pointer none] w (AllE [] w) := by
  go_enter Tryd.func19, Tryd.ntmps19
  go_wp2_with fail
  refine (bnext_nil _ _ _).mono ?_
  rintro e w1 ⟨rfl, rfl⟩
  go_wp2_with fail
  go_loop [3, 5] (fun v ok => v = .slice none 0 0 ∧ ok = .bool false) (fun _ _ => 0)
  case atStart => exact ⟨rfl, rfl⟩
  case round =>
    obtain ⟨rfl, rfl⟩ := hrel
    go_wp2_with fail
    go_ret
    exact ⟨_, rfl, ownI_nil _ _, Below.refl _ _⟩
def okM (ok i : Value) : Nat := match ok with
  | .bool true => 70000 - (intOf i).toNat
  | _ => 0
set_option maxRecDepth 100000 in
set_option maxHeartbeats 1000000 in
theorem ball_any {w : World} {s g cap : Nat} {W : List Nat} {l : List Bool} (h : BitAt w s g cap W l) (hT : TabZ w) : Calls Tryd.prog 19 #[sp s] w (AllE l w) := by
  have HB := Lib.hid h
  have HT := Lib.hid hT
  have nb := h.nb
  clear h hT
  unfold sp at *
  go_enter Tryd.func19, Tryd.ntmps19
  go_wp2_with fail
  refine (bnext_any HB.out HT.out 0 true).mono ?_
  rintro e w1 ⟨rfl, hb1⟩
  go_wp2_with fail
  go_loopw [3, 4, 5] (fun v i ok wr => ∃ (f : Nat) (xs : List Nat), Hid (xs ++ allF l f = allF l 0) ∧ i = .int .i64 (((nextO l true f).getD 0 : Nat) : Int) ∧ ok = .bool (nextO l true f).isSome ∧ OwnI wr w.heap.size v (nats xs) ∧ Below w.heap.size w wr) (fun _ i ok _ => okM ok i)
  case atStart => exact ⟨0, [], rfl, rfl, rfl, ownI_nil _ _, hb1⟩
  case round =>
    obtain ⟨f, xs, hx, rfl, rfl, hown, hb⟩ := hrel
    cases hn : nextO l true f with
    | none =>
      have hq := hx.out
      rw [allF_none hn, List.append_nil] at hq
      subst hq
      simp only [Option.getD_none, Option.isSome_none]
      have HN := Lib.hid hn
      clear hn hx
      go_wp2_with fail
      go_ret
      exact ⟨_, rfl, hown, hb⟩
    | some k =>
      have hq := hx.out
      rw [allF_some hn] at hq
      have hk := (nextO_some.1 hn).2.1
      have hfk := (nextO_some.1 hn).1
      have hl : (nats xs).length ≤ 65536 := by
        have := allF_len l 0
        rw [← hq] at this
        rw [nats_length]; simp only [List.length_append] at this; omega
      have HQ : Hid ((xs ++ [k]) ++ allF l (k + 1) = allF l 0) := by show _ = _; rw [← hq, List.append_assoc]; rfl
      have HN := Lib.hid hn
      simp only [Option.getD_some, Option.isSome_some]
      have k0 : (0 : Int) ≤ k := by omega
      have k1 : (k : Int) < l.length := by omega
      have NX := Lib.hid (fun w' (hb' : Below w.heap.size w w') => bnext_any (bit_below HB.out hb') (tabZ_below HT.out hb') ((k : Int) + 1) true)
      rw [show ((k : Int) + 1).toNat = k + 1 by omega] at NX
      have HL := Lib.hid hl
      have HFK := Lib.hid hfk
      have HNX := Lib.hid (fun j (hj : nextO l true (k + 1) = some j) => (show k + 1 ≤ j ∧ j < l.length from ⟨(nextO_some.1 hj).1, (nextO_some.1 hj).2.1⟩))
      have hs := hb.size
      clear hn hq hx hl hk hfk
      unfold sp at *
      go_wp2_with (at_builtin; refine appendI rfl _ _ rfl w.heap.size _ (nats xs) rfl (ownI_alloc hown _) _ [(k : Int)] rfl (read_one wr k) ?c1 ?c2 ?_; (case c1 => (have := HL.out; simp only [List.length_cons, List.length_nil]; omega)); (case c2 => (simp only [World.size_alloc]; omega)); intro v3 w3 hown3 hg3)
      have hb3 : Below w.heap.size w w3 := b_own (b_alloc hb _) (ownI_alloc hown _) hg3
      clear hg3
      go_wp2_with fail
      refine (NX.out w3 hb3).mono ?_
      rintro e w4 ⟨rfl, hb4⟩
      go_wp2_with fail
      go_roundw
      case rel => exact ⟨k + 1, xs ++ [k], HQ.out, rfl, rfl, by rw [nats_snoc]; exact ownI_below hown3 hb4, b_call hb3 hb4⟩
      case measure =>
        cases hj : nextO l true (k + 1) with
        | none => simp only [okM, Option.isSome_none, Option.isSome_some, intOf]; omega
        | some j =>
          have := HNX.out j hj
          simp only [okM, Option.isSome_some, intOf, Option.getD_some]; omega
theorem wclone_any {w : World} {g cap : Nat} {W : List Nat} (h : Blk w g (wrdE.row W)) (hle : W.length ≤ cap) (hcp : cap ≤ maxLen) (hl : W.length ≤ 1024) :
    Calls Tryd.prog 24 #[.slice (some ⟨g, 0, none⟩) W.length cap] w fun e w' => ∃ g' cap', e = .returned (.slice (some ⟨g', 0, none⟩) W.length cap') ∧ Blk w' g' (wrdE.row W) ∧ W.length ≤ cap' ∧ cap' ≤ maxLen ∧ w.heap.size ≤ g' ∧ Below w.heap.size w w' := by
  have HL := Lib.hid hl
  have t0 := fun (w : World) => Lib.run_eql_slice_nil (P := Tryd.prog) w 45 48 (some ⟨g, 0, none⟩) W.length cap 0 0 Tryd.underlying45
  simp only [Option.isNone_some] at t0
  have hr := readR_blk (c := wrdE) h hle hcp
  clear h hle hcp
  rcases Nat.eq_zero_or_pos W.length with hz | hz
  · have e : W = [] := List.eq_nil_of_length_eq_zero hz
    subst e
    simp only [List.length_nil] at t0
    clear hr hz hl
    go_enter Tryd.func24, Tryd.ntmps24
    go_wp2_with (at_builtin; refine appendR0 (c := wrdE) wordT rfl _ _ rfl w.heap.size ⟨g, 0, none⟩ cap rfl rfl ?_)
    go_ret
    exact ⟨w.heap.size, 0, rfl, blk_new w #[] _, Nat.le_refl _, Nat.zero_le _, Nat.le_refl _, b_alloc (Below.refl _ _) _⟩
  · go_enter Tryd.func24, Tryd.ntmps24
    go_wp2_with (at_builtin; refine appendR (c := wrdE) wordT rfl _ _ rfl w.heap.size _ [] rfl (own_emptyR (Nat.le_refl _)) _ W rfl (readR_below hr (b_alloc (Below.refl _ _) _)) ?c1 ?c2 ?c3 ?_; (case c1 => (simp; omega)); (case c2 => (unfold maxLen; simp; omega)); (case c3 => (simp)); intro v1 w1 hown1 hg1)
    rw [List.nil_append] at hown1
    obtain ⟨g', cap1, rfl, f1, f2, f3, f4, f5⟩ := ownR_form hown1 hz
    go_ret
    exact ⟨g', cap1, rfl, f5, f3, f4, f1, b_ownR (b_alloc (Below.refl _ _) _) (own_emptyR (c := wrdE) (E := 48) (Nat.le_refl _)) hg1⟩
theorem bcopy_nil (w : World) : Calls Tryd.prog 15 #[.pointer none] w fun e w' => e = .returned (.pointer none) ∧ w = w' := by
  go_enter Tryd.func15, Tryd.ntmps15
  go_wp2_with fail
  go_ret
  exact ⟨rfl, rfl⟩
theorem bcopy_any {w : World} {s g cap : Nat} {W : List Nat} {l : List Bool} (h : BitAt w s g cap W l) : Calls Tryd.prog 15 #[sp s] w (NewBit w l) := by
  have HB := Lib.hid h
  have wl : W.length ≤ 1024 := by have := h.bo.len; have := h.nb; omega
  have SC := Lib.hid (fun w' (hb : Below w.heap.size w w') => wclone_any (bit_below h hb).rw h.le h.cp wl)
  have HS : Hid (∀ w', Below w.heap.size w w' → w'.cell? ⟨s, 0, none⟩ = some (.slice (some ⟨g, 0, none⟩) W.length cap) ∧ w'.cell? ⟨s, 1, none⟩ = some (.int .i64 l.length)) := Lib.hid (fun w' hb => by
    obtain ⟨y0, y1, _⟩ := blk2 (bit_below h hb).hd; exact ⟨y0, y1⟩)
  obtain ⟨h0, h1, hf'⟩ := blk2 h.hd
  have B0 : Below w.heap.size w w.drew := b_drew (Below.refl _ _)
  clear h wl
  unfold sp at *
  go_enter Tryd.func15, Tryd.ntmps15
  go_wp2_with fail
  go_region_held3 (fun w' => w'.cell? ⟨s, 0, none⟩ = some (.slice (some ⟨g, 0, none⟩) W.length cap) ∧ w'.cell? ⟨s, 1, none⟩ = some (.int .i64 l.length))
    (exact HS.out _ (by (repeat' (first | exact Below.refl _ _ | assumption | refine b_alloc ?_ _ | refine b_over ?_ _ | refine b_drew ?_ | refine b_call ?_ (by assumption)))))
    (first | (go_at_call 24; refine (SC.out _ (by (repeat' (first | exact Below.refl _ _ | assumption | refine b_alloc ?_ _ | refine b_over ?_ _ | refine b_drew ?_ | refine b_call ?_ (by assumption))))).mono ?_; rintro e w5 ⟨g5, c5, rfl, f1, f2, f3, f4, hb5⟩; have F := Lib.hid (And.intro f1 (And.intro f2 (And.intro f3 f4))); clear f1 f2 f3 f4))
  all_goals
    have hs5 := hb5.size
    go_wp2_with fail
    go_ret
    obtain ⟨f1, f2, f3, f4⟩ := F.out
    have q := blk_new w5 #[.slice (some ⟨g5, 0, none⟩) W.length c5, .int .i64 l.length] 47
    have hg5 := f1.1
    exact ⟨w5.heap.size, g5, c5, W, rfl, ⟨q, blk_alloc f1 _, by omega, f2, f3, HB.out.nb, HB.out.bo⟩, hs5, f4, b_alloc (b_call B0 hb5) _⟩
end Go.Proofs.YtfbdnjmljdfjjaaDoor
