/- Layer 4's tables: New, Copy, Map, Unmap, Same. Conditions: a table of at most 256 pages. -/
import Derived.Test.YtfbdnjmljdfjjaaPage2
import Derived.Test.YtfbdnjmljdfjjaaRowW
namespace Go.Proofs.Ytfbdnjmljdfjjaa
open Go.RowKit
set_option linter.unusedVariables false
set_option linter.unusedSimpArgs false
attribute [local go_sem] over_cell over_frozen field_k field_n
def sizeP (n : Int) : Nat := if n < 0 then 0 else if 256 < n then 256 else n.toNat
theorem sizeP_le (n : Int) : sizeP n ≤ 256 := by unfold sizeP; repeat' split
                                                 all_goals omega
/-- A table that the call has made: at block b, its rows in block g, both new. -/
def NewTab (w : World) (L : List Row4) (e : Ending) (w' : World) : Prop := ∃ b g cap, e = .returned (tp b) ∧ TabAt w' b g cap L ∧ w.heap.size ≤ b ∧ w.heap.size ≤ g ∧ Below w.heap.size w w'
theorem cells_zr : (agg4 zr).cells.toList = quad.cells zr := rfl
def mk4 (m : Nat) : Array Value := madeCells (agg4 zr).cells (m * quad.size)
set_option maxRecDepth 100000 in
theorem tnew_any (n : Int) (w : World) : Calls Try.prog 7 #[.int .i64 n] w (NewTab w (List.replicate (sizeP n) zr)) := by
  have key : ∀ (z : Int) (m : Nat), z = m → m ≤ 256 → ∀ w : World, (Instr.makeSlice 53 (.int .i64 z) (.int .i64 z)).run Try.prog w = .ok (.slice (some ⟨w.heap.size, 0, none⟩) m m) (w.alloc (.cells (mk4 m) 36)) := fun z m hz hm w => by subst hz; exact run_makeR (c := quad) rowT _ _ m (by omega) (by omega) w
  have hfin : ∀ m : Nat, m ≤ 256 → ∀ e, e = Ending.returned (.pointer (some ⟨w.heap.size + 1, 0, none⟩)) → NewTab w (List.replicate m zr) e ((w.alloc (.cells (mk4 m) 36)).alloc (.cells #[.slice (some ⟨w.heap.size, 0, none⟩) m m] 55)) := by
    intro m hm e he
    refine ⟨w.heap.size + 1, w.heap.size, m, he, ⟨?_, blk_alloc (blk_make w zr cells_zr m) _, by omega, by simp, by unfold maxLen; omega, by simpa using hm⟩, by omega, by omega, b_alloc (b_alloc (Below.refl _ _) _) _⟩
    have q := blk_new (w.alloc (.cells (mk4 m) 36)) #[.slice (some ⟨w.heap.size, 0, none⟩) m m] 55
    rw [List.length_replicate]
    simpa using q
  have hs := sizeP n
  rcases (show n < 0 ∨ (0 ≤ n ∧ 256 < n) ∨ ∃ m : Nat, n = m ∧ m ≤ 256 by
    rcases (show n < 0 ∨ (0 ≤ n ∧ 256 < n) ∨ (0 ≤ n ∧ n ≤ 256) by omega) with q | q | q
    · exact Or.inl q
    · exact Or.inr (Or.inl q)
    · exact Or.inr (Or.inr ⟨n.toNat, by omega, by omega⟩)) with q | ⟨q1, q2⟩ | ⟨m, rfl, hm⟩
  · rw [show sizeP n = 0 by unfold sizeP; rw [if_pos q]]
    have K := key 0 0 rfl (by omega)
    have F := Lib.hid (hfin 0 (by omega))
    clear key hfin
    go_enter Try.func7, Try.ntmps7
    go_wp2_with fail
    go_ret
    exact F.out _ rfl
  · rw [show sizeP n = 256 by unfold sizeP; rw [if_neg (by omega), if_pos q2]]
    have K := key 256 256 rfl (by omega)
    have F := Lib.hid (hfin 256 (by omega))
    clear key hfin
    go_enter Try.func7, Try.ntmps7
    go_wp2_with fail
    go_ret
    exact F.out _ rfl
  · rw [show sizeP (m : Int) = m by unfold sizeP; rw [if_neg (by omega), if_neg (by omega)]; omega]
    have K := key m m rfl hm
    have F := Lib.hid (hfin m hm)
    have hm1 : (m : Int) ≤ 256 := by omega
    have hm0 : (0 : Int) ≤ m := by omega
    clear key hfin
    go_enter Try.func7, Try.ntmps7
    go_wp2_with fail
    go_ret
    exact F.out _ rfl
theorem then_world {K : Act → World → Prop} {Q : Exit → Act → World → Prop} {e : Exit} {a : Act} {w : World} (w0 : World) (hw : w = w0) (h : ∀ w', w' = w0 → Exit.then K Q e a w') : Exit.then K Q e a w := h _ hw
theorem lay_snoc {α : Type} {L M : List α} {k : Nat} (h : k + M.length < L.length) (x : α) : (lay L k M).set (k + M.length) x = lay L k (M ++ [x]) := by
  unfold lay
  have hl : (L.take k).length = k := by rw [List.length_take]; omega
  have e : L.drop (k + M.length) = L[k + M.length] :: L.drop (k + M.length + 1) := List.drop_eq_getElem_cons h
  rw [e, List.set_append_right _ _ (by rw [List.length_append, hl]; omega), List.length_append, hl, Nat.sub_self, List.set_cons_zero, List.length_append]
  simp [Nat.add_assoc]
theorem tab_put {w : World} {b g cap : Nat} {L M : List Row4} (h : TabAt w b g cap L) (k : Nat) (hk : k + M.length ≤ L.length) : TabAt (w.setCells g (k * 4) (quad.row M)) b g cap (lay L k M) := by
  have hl := lay_length (L := L) (M := M) (k := k) hk
  have hq := blk_grown h.hd (gb_sets (quad.row M) (k * 4) (gb_refl w (some g))) (fun e => h.ne (by injection e))
  exact ⟨by rw [hl]; exact hq, blk_lay quad h.rw hk, h.ne, by rw [hl]; exact h.le, h.cp, by rw [hl]; exact h.mx⟩
theorem tab_set {w : World} {b g cap : Nat} {L : List Row4} (h : TabAt w b g cap L) (k : Nat) (hk : k < L.length) (r : Row4) : TabAt (w.setCells g (k * 4) (cells4 r)) b g cap (L.set k r) := by
  have q := tab_put (M := [r]) h k (by simp; omega)
  rw [lay_one _ _ _ hk] at q
  exact q
theorem tab_kept {w w' : World} {b g cap : Nat} {L : List Row4} {r : Option Nat} (h : TabAt w b g cap L) (hg : w.grownBy w' r) (h1 : some b ≠ r) (h2 : some g ≠ r) : TabAt w' b g cap L := ⟨blk_grown h.hd hg h1, blk_grown h.rw hg h2, h.ne, h.le, h.cp, h.mx⟩
theorem tab_drew {w : World} {b g cap : Nat} {L : List Row4} (h : TabAt w b g cap L) : TabAt w.drew b g cap L := ⟨h.hd, h.rw, h.ne, h.le, h.cp, h.mx⟩
def mayR (r : Row4) : Bool := isF r.k && decide (1 ≤ r.n) && decide (r.n ≤ 256)
theorem mayR_iff (r : Row4) : mayR r = true ↔ isF r.k = true ∧ 1 ≤ r.n ∧ r.n ≤ 256 := by unfold mayR; simp only [Bool.and_eq_true, decide_eq_true_eq, and_assoc]
def laid (L : List Row4) (k : Nat) (r : Row4) : List Row4 := lay L k (r :: List.replicate (r.n.toNat - 1) tl)
set_option maxHeartbeats 1000000 in
theorem tmap_ok {w : World} {b g cap : Nat} {L : List Row4} (h : TabAt w b g cap L) (lo hi : Int) (r : Row4) (k : Nat) (hm : mayR r = true) (hp : IsPlace L lo hi r.n.toNat (k : Int)) :
    Calls Try.prog 16 #[tp b, .int .i64 lo, .int .i64 hi, agg4 r] w fun e w' => e = .returned (.tuple #[.int .i64 k, .int .i64 0]) ∧ TabAt w' b g cap (laid L k r) ∧ w.grownBy w' (some g) := by
  rw [mayR_iff] at hm
  obtain ⟨hf, h1, h2⟩ := hm
  obtain ⟨rk, rc, ro, rn⟩ := r
  simp only at hf h1 h2 hp
  obtain ⟨n, rfl⟩ : ∃ n : Nat, rn = n := ⟨rn.toNat, by omega⟩
  rw [Int.toNat_natCast] at hp
  obtain ⟨c0, hfz⟩ := blk1 h.hd
  have hb := h.hd.1
  have hg := h.rw.1
  have HT := Lib.hid h
  have HF := Lib.hid hf
  have hne := h.ne
  have hkl : k + n ≤ L.length := by
    rcases hp with ⟨e, _⟩ | ⟨k', e, hfit, _⟩
    · omega
    · have := hfit.1; omega
  have hmx := h.mx
  have HU : Hid (∀ p, IsPlace L (cutL lo) (cutH L.length lo hi) n p → p = k) := Lib.hid (fun p hp' => by
    refine place_eq ?_ hp
    rcases hp' with ⟨e, q⟩ | ⟨k', e, q1, q2⟩
    · exact Or.inl ⟨e, fun j hj => q j ((fits_cut (by omega)).2 hj)⟩
    · exact Or.inr ⟨k', e, (fits_cut (by omega)).1 q1, fun j hj hj' => q2 j hj ((fits_cut (by omega)).2 hj')⟩)
  have HP := Lib.hid hp
  have HCU : Hid (∀ w', Below w.heap.size w w' → Calls Try.prog 30 #[tp b, .int .i64 lo, .int .i64 hi] w' fun e w2 => e = .returned (.tuple #[.int .i64 (cutL lo), .int .i64 (cutH L.length lo hi)]) ∧ w' = w2) := Lib.hid (fun w' hb => tcut_any (tab_below HT.out hb) lo hi)
  have HPL : Hid (∀ w', Below w.heap.size w w' → Calls Try.prog 33 #[tp b, .int .i64 (cutL lo), .int .i64 (cutH L.length lo hi), .int .i64 n] w' (PlaceRet L (cutL lo) (cutH L.length lo hi) n w')) := Lib.hid (fun w' hb => tplace_any (tab_below HT.out hb) _ _ n (cut_bd L.length lo hi).1 (cut_bd L.length lo hi).2.2 (by omega) (by omega))
  have HLD : Hid (laid L k ⟨rk, rc, ro, n⟩ = lay L k (⟨rk, rc, ro, n⟩ :: List.replicate (n - 1) tl)) := by
    show _ = _
    unfold laid; simp only [Int.toNat_natCast]
  generalize laid L k ⟨rk, rc, ro, n⟩ = LL at *
  clear h hf hp
  unfold tp agg4 at *
  simp only
  have hbw : Below w.heap.size w (w.alloc (.cells #[.int .i64 rk, .int .i64 rc, .int .i64 ro, .int .i64 n] 36)) := b_alloc (Below.refl _ _) _
  go_enter Try.func16, Try.ntmps16
  go_wp2_with fail
  refine (first_any ⟨rk, rc, ro, n⟩ _).mono ?_
  rintro e w1 ⟨rfl, hb1⟩
  rw [show isF (⟨rk, rc, ro, n⟩ : Row4).k = true from HF.out]
  have hB1 := b_call hbw hb1
  obtain ⟨d0, d1, d2, d3, df⟩ := blk4 (blk_born hb1)
  go_wp2_with fail
  refine (HCU.out _ hB1).mono ?_
  rintro e w2 ⟨rfl, rfl⟩
  go_wp2_with fail
  refine (HPL.out _ hB1).mono ?_
  rintro e w2 ⟨p, hp, rfl, hb2⟩
  have hB2 := b_call hB1 hb2
  have hpk := HU.out p hp
  subst hpk
  have e1 : atR (k : Int) = k := by unfold atR; rw [if_pos (by omega)]
  have e2 : okR (k : Int) = true := by unfold okR; exact decide_eq_true (by omega)
  rw [e1, e2]
  clear e1 e2 hp
  have k0 : (0 : Int) ≤ k := by omega
  have k1 : (k : Int) < L.length := by omega
  have T2 := tab_below HT.out hB2
  have HT2 := Lib.hid T2
  obtain ⟨c0, hfz⟩ := blk1 T2.hd
  obtain ⟨x0, x1, x2, x3⟩ := tab_cells T2 k (by omega)
  have gf := T2.rw.2.2
  have BX : Blk w2 w.heap.size [.int .i64 rk, .int .i64 rc, .int .i64 ro, .int .i64 n] := blk_below (blk_born hb1) hb2
  have HBX := Lib.hid BX
  obtain ⟨d0, d1, d2, d3, df⟩ := blk4 BX
  have hkm : (k : Int) ≤ 256 := by omega
  clear T2 BX
  go_wp2_with fail
  go_region
  refine then_world (w2.setCells g (k * 4) (cells4 ⟨rk, rc, ro, n⟩)).drew rfl ?_
  intro w3 hw3
  have T3 : TabAt w3 b g cap (lay L k [⟨rk, rc, ro, n⟩]) := by rw [hw3, lay_one _ _ _ (by omega)]; exact tab_drew (tab_set HT2.out k (by omega) _)
  have G3 : w.grownBy w3 (some g) := by rw [hw3]; exact gb_drew (gb_sets _ _ (gb_of hB2 _))
  have B3 : Blk w3 w.heap.size [.int .i64 rk, .int .i64 rc, .int .i64 ro, .int .i64 n] := by rw [hw3]; exact blk_grown HBX.out (gb_drew (gb_sets _ _ (gb_refl w2 (some g)))) (fun e => by cases e; omega)
  clear hw3 c0 hfz x0 x1 x2 x3 gf d0 d1 d2 d3 df
  have hwg : w.heap.size ≠ g := by omega
  go_wp2_with fail
  go_loopw [12] (fun i wr => ∃ m : Nat, m + 1 ≤ n ∧ i = .int .i64 ((k + 1 + m : Nat) : Int) ∧ TabAt wr b g cap (lay L k (⟨rk, rc, ro, n⟩ :: List.replicate m tl)) ∧ w.grownBy wr (some g) ∧ Blk wr w.heap.size [.int .i64 rk, .int .i64 rc, .int .i64 ro, .int .i64 n]) (fun i _ => (512 - intOf i).toNat)
  case atStart => exact ⟨0, by omega, by go_num, T3, G3, B3⟩
  case round =>
    obtain ⟨m, hmn, rfl, T4, G4, B4⟩ := hrel
    have hl : (lay L k ((⟨rk, rc, ro, n⟩ : Row4) :: List.replicate m tl)).length = L.length := lay_length (by simp; omega)
    obtain ⟨c0, hfz⟩ := blk1 T4.hd
    obtain ⟨d0, d1, d2, d3, df⟩ := blk4 B4
    rw [hl] at c0
    have m0 : (0 : Int) ≤ ((k + 1 + m : Nat) : Int) := by omega
    have m1 : ((k + 1 + m : Nat) : Int) ≤ 512 := by omega
    by_cases hlt : m + 1 < n
    · have m2 : ((k + 1 + m : Nat) : Int) < (k : Int) + n := by omega
      have m3 : ((k + 1 + m : Nat) : Int) < L.length := by omega
      obtain ⟨x0, x1, x2, x3⟩ := tab_cells T4 (k + 1 + m) (by omega)
      have gf := T4.rw.2.2
      have HN : Hid ((lay L k ((⟨rk, rc, ro, n⟩ : Row4) :: List.replicate m tl)).set (k + 1 + m) tl = lay L k ((⟨rk, rc, ro, n⟩ : Row4) :: List.replicate (m + 1) tl)) := by
        show _ = _
        have q := lay_snoc (L := L) (M := (⟨rk, rc, ro, n⟩ : Row4) :: List.replicate m tl) (k := k) (by simp; omega) tl
        rw [List.replicate_succ', ← List.cons_append, ← q]
        congr 1
        simp; omega
      have HT4 := Lib.hid T4
      have HB4 := Lib.hid B4
      generalize (lay L k ((⟨rk, rc, ro, n⟩ : Row4) :: List.replicate m tl))[k + 1 + m] = y at *
      have HL := Lib.hid hl
      obtain ⟨i, hi⟩ : ∃ i, i = k + 1 + m := ⟨_, rfl⟩
      rw [← hi] at m0 m1 m2 m3 x0 x1 x2 x3 HN
      rw [← hi]
      have HI := Lib.hid hi
      clear T4 B4 hl hi
      go_wp2_with fail
      have T5 : TabAt (wr.setCells g (i * 4) (cells4 tl)) b g cap (lay L k ((⟨rk, rc, ro, n⟩ : Row4) :: List.replicate (m + 1) tl)) := by rw [← HN.out]; exact tab_set HT4.out i (by rw [HL.out]; omega) _
      have G5 : w.grownBy (wr.setCells g (i * 4) (cells4 tl)) (some g) := gb_sets _ _ G4
      have B5 : Blk (wr.setCells g (i * 4) (cells4 tl)) w.heap.size [.int .i64 rk, .int .i64 rc, .int .i64 ro, .int .i64 n] := blk_grown HB4.out (gb_sets _ _ (gb_refl wr (some g))) (fun e => by cases e; omega)
      exact ⟨⟨m + 1, by omega, by rw [HI.out]; go_num, T5, G5, B5⟩, by simp only [intOf]; omega⟩
    · have m2 : ¬ ((k + 1 + m : Nat) : Int) < (k : Int) + n := by omega
      have e : m = n - 1 := by omega
      rw [e, ← HLD.out] at T4
      have HT4 := Lib.hid T4
      clear T4 hl e
      go_wp2_with fail
      go_ret2
      exact ⟨rfl, HT4.out, G4⟩
end Go.Proofs.Ytfbdnjmljdfjjaa
