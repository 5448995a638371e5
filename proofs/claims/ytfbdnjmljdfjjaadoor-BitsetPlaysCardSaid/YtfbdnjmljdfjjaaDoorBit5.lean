/- Layer 2: the contracts of Same, of the law's Same at rows that are alike, of the chapter's example. Conditions: at most 65536 bits; the library's table as it is laid. -/
import Derived.Test.YtfbdnjmljdfjjaaDoorBit4
namespace Go.Proofs.YtfbdnjmljdfjjaaDoor
open Go.RowKit
set_option linter.unusedVariables false
set_option linter.unusedSimpArgs false
attribute [local go_sem] over_cell over_frozen
/-- What Same asks of a row. -/
structure SameV (w : World) (p : Value) (l : List Bool) : Prop where
  len : ∀ w', Below w.heap.size w w' → Calls Tryd.prog 17 #[p] w' fun e w'' => e = .returned (.int .i64 l.length) ∧ w' = w''
  all : ∀ w', Below w.heap.size w w' → Calls Tryd.prog 19 #[p] w' (AllE l w')
  nb : l.length ≤ 65536
theorem sameV_bit {w : World} {s g cap : Nat} {W : List Nat} {l : List Bool} (h : BitAt w s g cap W l) (hT : TabZ w) : SameV w (sp s) l :=
  ⟨fun w' hb => blen_any (bit_below h hb), fun w' hb => ball_any (bit_below h hb) (tabZ_below hT hb), h.nb⟩
theorem sameV_nil (w : World) : SameV w (.pointer none) [] := ⟨fun w' _ => blen_nil w', fun w' _ => ball_nil w', by simp⟩
theorem nats_len (l : List Bool) : (nats (allF l 0)).length ≤ l.length := by rw [nats_length]; have := allF_len l 0; omega
set_option maxRecDepth 100000 in
theorem bsame_any {w : World} {p q : Value} {l m : List Bool} (hp : SameV w p l) (hq : SameV w q m) : Calls Tryd.prog 11 #[p, q] w fun e w' => e = .returned (.bool (decide (l = m))) ∧ Below w.heap.size w w' := by
  have LP := Lib.hid (hp.len w (Below.refl _ _))
  have LQ := Lib.hid (hq.len w (Below.refl _ _))
  have HP := Lib.hid hp
  have HQ := Lib.hid hq
  clear hp hq
  by_cases hn : l.length = m.length
  · have t1 : ((l.length : Int) == (m.length : Int)) = true := by rw [beq_iff_eq]; omega
    have ED : Hid (decide (nats (allF l 0) = nats (allF m 0)) = decide (l = m)) := by
      show _ = _
      by_cases e : l = m
      · subst e; simp
      · rw [decide_eq_false e, decide_eq_false]
        intro h
        exact e (allF_inj hn (nats_inj h))
    clear hn
    go_enter Tryd.func11, Tryd.ntmps11
    go_wp2_with fail
    refine LP.out.mono ?_
    rintro e w1 ⟨rfl, rfl⟩
    go_wp2_with fail
    refine LQ.out.mono ?_
    rintro e w1 ⟨rfl, rfl⟩
    go_wp2_with fail
    refine (HP.out.all w (Below.refl _ _)).mono ?_
    rintro e w1 ⟨v1, rfl, o1, b1⟩
    go_wp2_with fail
    refine (HQ.out.all w1 b1).mono ?_
    rintro e w2 ⟨v2, rfl, o2, b2⟩
    go_wp2_with fail
    refine (ieq_any _ _ _ _ w2 (ownI_read (ownI_below o1 b2)) (ownI_read o2) (by have := nats_len l; have := HP.out.nb; omega) (by have := nats_len m; have := HQ.out.nb; omega)).mono ?_
    rintro e w3 ⟨rfl, b3⟩
    rw [ED.out]
    go_wp2_with fail
    go_ret
    exact ⟨rfl, b_call (b_call b1 b2) b3⟩
  · have t1 : ((l.length : Int) == (m.length : Int)) = false := by rw [beq_eq_false_iff_ne]; omega
    have e : decide (l = m) = false := decide_eq_false (fun e => hn (by rw [e]))
    rw [e]
    clear hn e
    go_enter Tryd.func11, Tryd.ntmps11
    go_wp2_with fail
    refine LP.out.mono ?_
    rintro e w1 ⟨rfl, rfl⟩
    go_wp2_with fail
    refine LQ.out.mono ?_
    rintro e w1 ⟨rfl, rfl⟩
    go_wp2_with fail
    go_ret
    exact ⟨rfl, Below.refl _ _⟩
theorem aw_1 : putL (List.replicate (bitN 10) false) 3 true = [false, false, false, true, false, false, false, false, false, false] := by decide
theorem aw_2 : putE (List.replicate (bitN 10) false) 3 = 0 := by decide
def awL : List Bool := [false, false, false, true, false, false, false, false, false, false]
theorem aw_3 : nextO awL true (0 : Int).toNat = some 3 := by decide +kernel
theorem aw_4 : nextO awL false (3 : Int).toNat = some 4 := by decide +kernel
theorem aw_5 : cntF awL awL.length = 1 := by decide +kernel
set_option maxRecDepth 100000 in
theorem awake02 {w : World} (hT : TabZ w) : Calls Tryd.prog 10 #[] w fun e w' => e = .returned (.bool true) ∧ Below w.heap.size w w' := by
  have HT := Lib.hid hT
  clear hT
  go_enter Tryd.func10, Tryd.ntmps10
  go_wp2_with fail
  refine (bnew_any 10 w).mono ?_
  rintro e w1 ⟨s, g, cap, W, rfl, hb, hs, hg, hb1⟩
  have HB := Lib.hid hb
  have HG := Lib.hid hg
  clear hb hs hg
  unfold sp
  go_wp2_with fail
  refine (bput_any HB.out 3 true).mono ?_
  rintro e w2 ⟨W2, rfl, hb2, hg2⟩
  rw [aw_1] at hb2
  rw [aw_2]
  have hb2' : BitAt w2 s g cap W2 awL := hb2
  clear hb2
  have HB2 := Lib.hid hb2'
  have hb2 : Below w.heap.size w w2 := b_grown hb1 hg2 HG.out
  have HT2 := Lib.hid (tabZ_below HT.out hb2)
  clear hb2' HB hg2
  go_wp2_with fail
  refine (bnext_any HB2.out HT2.out 0 true).mono ?_
  rintro e w3 ⟨rfl, hb3⟩
  rw [aw_3]
  go_wp2_with fail
  refine (bnext_any (bit_below HB2.out hb3) (tabZ_below HT2.out hb3) 3 false).mono ?_
  rintro e w4 ⟨rfl, hb4⟩
  rw [aw_4]
  go_wp2_with fail
  refine (bcount_any (bit_below (bit_below HB2.out hb3) hb4)).mono ?_
  rintro e w5 ⟨rfl, rfl⟩
  rw [aw_5]
  go_wp2_with fail
  go_ret
  exact ⟨rfl, b_call (b_call hb2 hb3) hb4⟩
set_option maxRecDepth 100000 in
set_option maxHeartbeats 1000000 in
theorem lsame_any {w : World} {s g cap : Nat} {W : List Nat} {l : List Bool} {v : Value} (h : BitAt w s g cap W l) (hT : TabZ w) (hr : ReadR booE w v l) : Calls Tryd.prog 16 #[sp s, v] w fun e w' => e = .returned (.bool true) ∧ Below w.heap.size w w' := by
  have HB := Lib.hid h
  have HT := Lib.hid hT
  have HR := Lib.hid hr
  obtain ⟨a, cp, rfl, _, _⟩ := readR_len hr
  have LP := Lib.hid (blen_any h)
  have nb := h.nb
  have t1 : ((l.length : Int) != (l.length : Int)) = false := by simp
  have t2 : (((cntF l l.length : Nat) : Int) != ((cntF l l.length : Nat) : Int)) = false := by simp
  clear h hT hr
  unfold sp at *
  go_enter Tryd.func16, Tryd.ntmps16
  go_wp2_with fail
  refine LP.out.mono ?_
  rintro e w1 ⟨rfl, rfl⟩
  go_wp2_with fail
  refine (bcount_any HB.out).mono ?_
  rintro e w1 ⟨rfl, rfl⟩
  go_wp2_with fail
  refine (rcount2_any HR.out HB.out.nb).mono ?_
  rintro e w1 ⟨rfl, rfl⟩
  go_wp2_with fail
  refine (ball_any HB.out HT.out).mono ?_
  rintro e w1 ⟨v1, rfl, o1, b1⟩
  go_wp2_with fail
  refine (rall2_any (readR_below HR.out b1) HB.out.nb).mono ?_
  rintro e w2 ⟨v2, rfl, o2, b2⟩
  have r1 := ownI_read (ownI_below o1 b2)
  have r2 := ownI_read o2
  have hb2 := b_call b1 b2
  have nl := nats_len l
  generalize nats (allF l 0) = xs at *
  have xb : (xs.length : Int) ≤ 65536 := by omega
  clear o1 o2 nl
  rcases Nat.eq_zero_or_pos xs.length with hz | hz
  · have e : xs = [] := List.eq_nil_of_length_eq_zero hz
    subst e
    obtain ⟨a1, c1, rfl⟩ := readI_len r1
    obtain ⟨a2, c2, rfl⟩ := readI_len r2
    simp only [List.length_nil]
    go_wp2_with fail
    go_loop [31] (fun i => i = .int .i64 0) (fun _ => 0)
    case atStart => rfl
    case round =>
      subst hrel
      go_wp2_with fail
      go_ret
      exact ⟨rfl, hb2⟩
  · obtain ⟨g1, o1, c1, rfl, _, _, l1, h1⟩ := readI_pos r1 hz
    obtain ⟨g2, o2, c2, rfl, _, _, l2, h2⟩ := readI_pos r2 hz
    have H1 := Lib.hid h1
    have H2 := Lib.hid h2
    have t3 : ((xs.length : Int) != (xs.length : Int)) = false := by simp
    clear h1 h2 r1 r2 hz
    go_wp2_with fail
    go_loopw [31] (fun i wr => ∃ k : Nat, k ≤ xs.length ∧ i = .int .i64 k ∧ Below w2.heap.size w2 wr) (fun i _ => xs.length - (intOf i).toNat)
    case atStart => exact ⟨0, Nat.zero_le _, rfl, Below.refl _ _⟩
    case round =>
      obtain ⟨k, hk, rfl, hbw⟩ := hrel
      by_cases hlt : k < xs.length
      · have d1 : wr.cell? ⟨g1, o1 + k, none⟩ = some (.int .i64 (xs.getD k 0)) := ((bcell hbw).1 _ _ l1).trans (H1.out k hlt)
        have d2 : wr.cell? ⟨g2, o2 + k, none⟩ = some (.int .i64 (xs.getD k 0)) := ((bcell hbw).1 _ _ l2).trans (H2.out k hlt)
        generalize xs.getD k 0 = x at *
        have t4 : (x != x) = false := by simp
        have k0 : (0 : Int) ≤ k := by omega
        have k1 : (k : Int) < xs.length := by omega
        go_wp2_with fail
        go_quiet (fail)
        go_wp2_with fail
        go_roundw
        case rel => exact ⟨k + 1, by omega, by go_num, b_drewN hbw _⟩
        case measure => simp only [intOf]; omega
      · go_wp2_with fail
        go_ret
        exact ⟨rfl, b_call hb2 hbw⟩
end Go.Proofs.YtfbdnjmljdfjjaaDoor
