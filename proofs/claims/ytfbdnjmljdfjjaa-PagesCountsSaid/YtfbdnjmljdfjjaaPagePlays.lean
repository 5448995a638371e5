/- PagesPlays, walked: whatever calls, the answer is true. Conditions: the calls read as a list; their places are ints. -/
import Derived.Test.YtfbdnjmljdfjjaaPageO
namespace Go.Proofs.Ytfbdnjmljdfjjaa
open Go.RowKit
set_option linter.unusedVariables false
set_option linter.unusedSimpArgs false
attribute [local go_sem] over_cell over_frozen field_k field_n
/-- What is between two calls. -/
def PSt (w wr : World) (m : Nat) (t v : Value) : Prop := ∃ b g cap g1 cap1 L, t = tp b ∧ v = rv g1 L cap1 ∧ Pair wr b g cap g1 cap1 L ∧ L.length = m ∧ w.heap.size ≤ b ∧ w.heap.size ≤ g ∧ w.heap.size ≤ g1 ∧ Below w.heap.size w wr
theorem b_gb {W w w' : World} {b : Nat} (h : Below W.heap.size W w) (hg : w.grownBy w' (some b)) (hb : W.heap.size ≤ b) : Below W.heap.size W w' := b_grown h hg hb
/-- The call 'Map' of a table that is left. -/
theorem tmap_left {w : World} {b g cap : Nat} {L : List Row4} (h : TabAt w b g cap L) (lo hi : Int) (r : Row4) (hm : mayR r = true) : Calls Try.prog 16 #[tp b, .int .i64 lo, .int .i64 hi, agg4 r] w fun e w' => ∃ a c, e = .returned (.tuple #[a, c]) ∧ w.grownBy w' (some g) := by
  rcases placeI_is L lo hi r.n.toNat with ⟨e, q⟩ | ⟨p, e, q⟩
  · exact (tmap_full h lo hi r hm (Or.inl ⟨rfl, q⟩)).mono fun e w' ⟨he, hb⟩ => ⟨_, _, he, gb_of hb _⟩
  · exact (tmap_ok h lo hi r p hm (Or.inr ⟨p, rfl, q⟩)).mono fun e w' ⟨he, _, hg⟩ => ⟨_, _, he, hg⟩
/-- The cells of a call that came in. -/
theorem op_cells {w : World} {bl off : Nat} {ops : List OpP} (h4 : ∀ (k : Nat) (h : k < ops.length) (j : Nat), j < opE.size → w.cell? ⟨bl, off + (k * opE.size + j), none⟩ = (opE.cells ops[k])[j]?) (k : Nat) (hk : k < ops.length) :
    w.cell? ⟨bl, off + k * 8, none⟩ = some (.int .i64 ops[k].k) ∧ w.cell? ⟨bl, off + k * 8 + 1, none⟩ = some (.int .i64 ops[k].a) ∧ w.cell? ⟨bl, off + k * 8 + 2, none⟩ = some (.int .i64 ops[k].lo) ∧ w.cell? ⟨bl, off + k * 8 + 3, none⟩ = some (.int .i64 ops[k].hi) ∧
    w.cell? ⟨bl, off + k * 8 + 4, none⟩ = some (.int .i64 ops[k].r.k) ∧ w.cell? ⟨bl, off + k * 8 + 5, none⟩ = some (.int .i64 ops[k].r.c) ∧ w.cell? ⟨bl, off + k * 8 + 6, none⟩ = some (.int .i64 ops[k].r.o) ∧ w.cell? ⟨bl, off + k * 8 + 7, none⟩ = some (.int .i64 ops[k].r.n) := by
  have h4' : ∀ (j : Nat), j < 8 → w.cell? ⟨bl, off + k * 8 + j, none⟩ = (opE.cells ops[k])[j]? := fun j hj => by
    have := h4 k hk j hj
    rw [Nat.add_assoc]; exact this
  exact ⟨h4' 0 (by omega), h4' 1 (by omega), h4' 2 (by omega), h4' 3 (by omega), h4' 4 (by omega), h4' 5 (by omega), h4' 6 (by omega), h4' 7 (by omega)⟩
def boxO (o : OpP) : Obj := .cells #[.int .i64 o.k, .int .i64 o.a, .int .i64 o.lo, .int .i64 o.hi, .int .i64 o.r.k, .int .i64 o.r.c, .int .i64 o.r.o, .int .i64 o.r.n] 30
theorem pst_step {w wr wx w' : World} {m : Nat} {b g cap g1 cap1 : Nat} {L : List Row4} {e : Ending} (hbx : Below w.heap.size w wx) (hB : w.heap.size ≤ b) (hg : w.heap.size ≤ g) (hg1 : w.heap.size ≤ g1) (hL : L.length = m) (h : StepRet wx b g cap g1 cap1 L e w') :
    ∃ v, e = .returned (.tuple #[v, .bool true]) ∧ PSt w w' m (tp b) v := by
  obtain ⟨L2, g2, cap2, he, hp, hor, hl, hgb⟩ := h
  refine ⟨_, he, b, g, cap, g2, cap2, L2, rfl, rfl, hp, by omega, hB, hg, ?_, b_gb hbx hgb hg⟩
  rcases hor with q | q
  · rw [q]; exact hg1
  · have := hbx.size; omega
theorem pst_start {w w1 w2 : World} {m b g cap g1 cap1 : Nat} (hm : m ≤ 256) (t : TabAt w1 b g cap (List.replicate m zr)) (h1 : w.heap.size ≤ b) (h2 : w.heap.size ≤ g) (hb1 : Below w.heap.size w w1) (r : RL w2 g1 cap1 (List.replicate m zr)) (h3 : w1.heap.size ≤ g1) (hb2 : Below w1.heap.size w1 w2) : PSt w w2 m (tp b) (rv g1 (List.replicate m zr) cap1) := by
  have := hb1.size
  have l1 := t.hd.1
  have l2 := t.rw.1
  exact ⟨b, g, cap, g1, cap1, _, rfl, rfl, ⟨tab_below t hb2, r, by omega, by omega, wf_new m⟩, by simp, h1, h2, by omega, b_call hb1 hb2⟩
set_option maxHeartbeats 1000000 in
theorem pagesPlays_any (n0 : Int) (h0 : 0 ≤ n0) (h1 : n0 < 256) (u : Value) (ops : List OpP) (w : World) (h : ReadR opE w u ops) (hg : ∀ o ∈ ops, GoodO o) :
    Calls Try.prog 4 #[.int .u8 n0, u] w fun e w' => e = .returned (.bool true) ∧ Below w.heap.size w w' := by
  obtain ⟨m, hm⟩ : ∃ m : Nat, n0 % 40 = m := ⟨(n0 % 40).toNat, by omega⟩
  have hm40 : m < 40 := by omega
  have HNEW := Lib.hid (tnew_any (m : Int))
  have HRN := Lib.hid (rnew_any (m : Int))
  have hsz : sizeP (m : Int) = m := by unfold sizeP; rw [if_neg (by omega), if_neg (by omega)]; omega
  rw [hsz] at HNEW HRN
  have HM := Lib.hid hm
  obtain ⟨a, cap, rfl, c1, c2, c3, c4⟩ := h
  have hcm := cap_le c2
  have H4 := Lib.hid c4
  have HG := Lib.hid hg
  have hlm : (ops.length : Int) ≤ 9223372036854775807 := by omega
  clear hsz c4 hg c3
  go_enter Try.func4, Try.ntmps4
  go_wp2_with fail
  refine (HNEW.out _).mono ?_
  rintro e w1 ⟨b, g, cap1, rfl, T1, hb, hg, B1⟩
  go_wp2_with fail
  refine (HRN.out _).mono ?_
  rintro e w2 ⟨g1, cap2, rfl, R2, hg1, B2⟩
  have P0 := Lib.hid (pst_start (by omega) T1 hb hg B1 R2 hg1 B2)
  generalize tp b = vt at *
  generalize rv g1 (List.replicate m zr) cap2 = vr at *
  clear T1 R2 hb hg hg1 B1 B2 hm
  go_wp2_with fail
  go_loopw [6, 7, 22] (fun t v i wr => ∃ k : Nat, k ≤ ops.length ∧ i = .int .i64 k ∧ Hid (PSt w wr m t v)) (fun _ _ i _ => ops.length - (intOf i).toNat)
  case atStart => exact ⟨0, Nat.zero_le _, rfl, P0.out⟩
  case round =>
    obtain ⟨k, hk, rfl, hp⟩ := hrel
    obtain ⟨b, g, cap1, g1, cap2, L, rfl, rfl, HP, hL, hb, hg, hg1, hbw⟩ := hp.out
    have k0 : (0 : Int) ≤ k := by omega
    by_cases hlt : k < ops.length
    · obtain ⟨bl, off, rfl, hbl, c4⟩ := H4.out (by omega)
      have k1 : (k : Int) < ops.length := by omega
      have hgo := HG.out _ (List.getElem_mem hlt)
      have hcs := op_cells c4 k hlt
      rw [← (bcell hbw).1 _ _ hbl, ← (bcell hbw).1 _ _ hbl, ← (bcell hbw).1 _ _ hbl, ← (bcell hbw).1 _ _ hbl, ← (bcell hbw).1 _ _ hbl, ← (bcell hbw).1 _ _ hbl, ← (bcell hbw).1 _ _ hbl, ← (bcell hbw).1 _ _ hbl] at hcs
      generalize ops[k] = o at *
      obtain ⟨d0, d1, d2, d3, d4, d5, d6, d7⟩ := hcs
      have HPH := Lib.hid HP
      have HGO := Lib.hid hgo
      have HL := Lib.hid hL
      have hBx := b_alloc hbw (boxO o)
      have HPX := Lib.hid (pair_below HP (b_alloc (Below.refl wr.heap.size wr) (boxO o)))
      have BXH : Hid (Blk (wr.alloc (boxO o)) wr.heap.size [.int .i64 o.k, .int .i64 o.a, .int .i64 o.lo, .int .i64 o.hi, .int .i64 o.r.k, .int .i64 o.r.c, .int .i64 o.r.o, .int .i64 o.r.n]) := Lib.hid (blk_new wr _ _)
      clear c4 HP hL hgo hp
      by_cases hk40 : k < 40
      · have k2 : (k : Int) < 40 := by omega
        by_cases h6 : o.k = 6
        · have t6 : (o.k == 6) = true := by rw [beq_iff_eq]; exact h6
          have HCP := Lib.hid (tcopy_any HPX.out.t)
          have H6 := Lib.hid h6
          unfold boxO at *
          unfold tp rv at *
          clear h6
          go_wp2_with fail
          refine HCP.out.mono ?_
          rintro e w3 ⟨b3, g3, cap3, rfl, T3, hb3, hg3, B3⟩
          have P3 := pair_below HPX.out B3
          have hB3 := b_call hBx B3
          have hml := tmap_left P3.t 0 m r11 (by decide)
          unfold agg4 r11 at hml
          have HML := Lib.hid hml; clear hml
          unfold tp at *
          go_wp2_with fail
          refine HML.out.mono ?_
          rintro e w4 ⟨a1, a2, rfl, G4⟩
          have hlt3 := P3.t.rw.1
          have hlg := HPX.out.t.rw.1
          have hlg1 := HPX.out.r.rw.1
          have P4 : PSt w w4 m (tp b3) (rv g1 L cap2) := by
            have hs := hBx.size
            refine ⟨b3, g3, cap3, g1, cap2, L, rfl, rfl, ⟨tab_kept T3 G4 (by intro e; injection e; omega) (by intro e; injection e; omega), rl_grown P3.r G4 (fun e => HPX.out.n1 (by injection e)), by omega, by omega, HPX.out.wf⟩, HL.out, by omega, by omega, hg1, b_gb hB3 G4 hg⟩
          go_wp2_with fail
          go_roundw
          case rel => exact ⟨k + 1, by omega, by go_num, P4⟩
          case measure => simp only [intOf]; omega
        · have t6 : (o.k == 6) = false := by rw [beq_eq_false_iff_ne]; exact h6
          have hst := step_any HPX.out o HGO.out
          unfold aggO at hst
          have HST := Lib.hid hst
          unfold boxO at *
          clear hst h6
          unfold tp rv at *
          go_wp2_with fail
          refine HST.out.mono ?_
          rintro e w3 hret
          obtain ⟨v, rfl, P3⟩ := pst_step (w := w) (m := m) (wr := wr) hBx hb hg hg1 HL.out hret
          obtain ⟨b3, g3, cap3, g4, cap4, L3, e1, rfl, HP3, hL3, hb3, hg3, hg4, hbw3⟩ := P3
          have e2 : b3 = b := by unfold tp at e1; cases e1; rfl
          subst e2
          have HSM := Lib.hid (same4_any HP3.t HP3.r)
          have HP3H := Lib.hid HP3
          have HL3 := Lib.hid hL3
          clear e1 HP3 hL3
          unfold tp rv at *
          go_wp2_with fail
          refine HSM.out.mono ?_
          rintro e w4 ⟨rfl, hb4⟩
          have P4 : PSt w w4 m (tp b3) (rv g4 L3 cap4) := ⟨b3, g3, cap3, g4, cap4, L3, rfl, rfl, pair_below HP3H.out hb4, HL3.out, hb3, hg3, hg4, b_call hbw3 hb4⟩
          go_wp2_with fail
          go_roundw
          case rel => exact ⟨k + 1, by omega, by go_num, P4⟩
          case measure => simp only [intOf]; omega
      · have k2 : (40 : Int) ≤ k := by omega
        have HSM := Lib.hid (same4_any HPX.out.t HPX.out.r)
        unfold boxO at *
        unfold tp rv at *
        go_wp2_with fail
        refine HSM.out.mono ?_
        rintro e w3 ⟨rfl, hb3⟩
        have hB3 := b_call hBx hb3
        go_wp2_with fail
        refine (awake4_any _).mono ?_
        rintro e w4 ⟨rfl, hb4⟩
        go_wp2_with fail
        go_ret
        exact ⟨rfl, b_call hB3 hb4⟩
    · have HSM := Lib.hid (same4_any HP.t HP.r)
      clear HP hp hL
      unfold tp rv at *
      go_wp2_with fail
      refine HSM.out.mono ?_
      rintro e w3 ⟨rfl, hb3⟩
      have hB3 := b_call hbw hb3
      go_wp2_with fail
      refine (awake4_any _).mono ?_
      rintro e w4 ⟨rfl, hb4⟩
      go_wp2_with fail
      go_ret
      exact ⟨rfl, b_call hB3 hb4⟩
end Go.Proofs.Ytfbdnjmljdfjjaa
