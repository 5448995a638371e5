/- Layer 4's references that make rows: Lay, Clear. Conditions: at most 256 rows. -/
import Derived.Test.YtfbdnjmljdfjjaaPageR
namespace Go.Proofs.Ytfbdnjmljdfjjaa
open Go.RowKit
set_option linter.unusedVariables false
set_option linter.unusedSimpArgs false
attribute [local go_sem] over_cell over_frozen
theorem rl_read {w : World} {g cap : Nat} {L : List Row4} (h : RL w g cap L) : ReadR quad w (.slice (some ⟨g, 0, none⟩) L.length cap) L := readR_blk h.rw h.le h.cp
theorem lay_set {L : List Row4} {k n : Nat} (h : k + n ≤ L.length) (hn : 1 ≤ n) (r : Row4) : (lay L k (List.replicate n tl)).set k r = lay L k (r :: List.replicate (n - 1) tl) := by
  obtain ⟨m, rfl⟩ : ∃ m, n = m + 1 := ⟨n - 1, by omega⟩
  unfold lay
  have hl : (L.take k).length = k := by rw [List.length_take]; omega
  rw [List.append_assoc, List.set_append_right _ _ (by omega), hl, Nat.sub_self, List.replicate_succ, List.cons_append, List.set_cons_zero]
  simp [List.length_replicate]
theorem lay_step {L : List Row4} {k m : Nat} (h : k + m < L.length) (x : Row4) : (lay L k (List.replicate m x)).set (k + m) x = lay L k (List.replicate (m + 1) x) := by
  have q := lay_snoc (L := L) (M := List.replicate m x) (k := k) (by simpa using h) x
  rw [List.length_replicate, ← List.replicate_succ'] at q
  exact q
theorem rl_set {w : World} {g cap : Nat} {L : List Row4} (h : RL w g cap L) (k : Nat) (hk : k < L.length) (r : Row4) : RL (w.setCells g (k * 4) (cells4 r)) g cap (L.set k r) :=
  ⟨blk_elt quad h.rw hk r, by rw [List.length_set]; exact h.le, h.cp, by rw [List.length_set]; exact h.mx⟩
theorem rlay_any {w : World} {g cap : Nat} {L : List Row4} (h : RL w g cap L) (k : Nat) (r : Row4) (h1 : 1 ≤ r.n) (h2 : (k : Int) + r.n ≤ L.length) :
    Calls Try.prog 26 #[rv g L cap, .int .i64 k, agg4 r] w (NewL w (laid L k r)) := by
  obtain ⟨rk, rc, ro, rn⟩ := r
  simp only at h1 h2
  obtain ⟨n, rfl⟩ : ∃ n : Nat, rn = n := ⟨rn.toNat, by omega⟩
  have hmx := h.mx
  have hLD : laid L k ⟨rk, rc, ro, n⟩ = (lay L k (List.replicate n tl)).set k ⟨rk, rc, ro, n⟩ := by
    rw [lay_set (by omega) (by omega)]; unfold laid; simp only [Int.toNat_natCast]
  have hr := rl_read h
  have hB := b_alloc (Below.refl w.heap.size w) (.cells #[.int .i64 rk, .int .i64 rc, .int .i64 ro, .int .i64 n] 28)
  have hr1 := readR_below hr hB
  have BX := blk_new w #[.int .i64 rk, .int .i64 rc, .int .i64 ro, .int .i64 n] 28
  have HBX := Lib.hid BX
  have hE : OwnR quad 28 ((w.alloc (.cells #[.int .i64 rk, .int .i64 rc, .int .i64 ro, .int .i64 n] 28)).alloc (.cells #[] 28)) (w.heap.size + 1) (.slice (some ⟨w.heap.size + 1, 0, none⟩) 0 0) [] := by
    have q := own_emptyR (c := quad) (E := 28) (w := w.alloc (.cells #[.int .i64 rk, .int .i64 rc, .int .i64 ro, .int .i64 n] 28)) (B := w.heap.size + 1) (by simp)
    rwa [World.size_alloc] at q
  have HE := Lib.hid hE
  have HLD := Lib.hid hLD
  generalize laid L k ⟨rk, rc, ro, n⟩ = LL at *
  clear h hr BX hLD hE
  unfold agg4 rv
  simp only
  go_enter Try.func26, Try.ntmps26
  go_upto_region 2 with (at_builtin; refine appendR rowRT rfl _ _ rfl (w.heap.size + 1) _ [] rfl HE.out _ L rfl (readR_below hr1 (b_alloc (Below.refl _ _) _)) ?c1 ?c2 ?c3 ?_; (case c1 => (simp; omega)); (case c2 => (unfold maxLen; simp; omega)); (case c3 => (simp)); intro v1 w1 hown1 hg1)
  rw [List.nil_append] at hown1
  have hB1 : Below w.heap.size w w1 := b_ownR (b_alloc hB _) (ownR_mono HE.out (by omega)) hg1
  obtain ⟨g1, cap1, rfl, f1, f2, f3, f4, f5⟩ := ownR_form hown1 (by omega)
  have BX1 : Blk w1 w.heap.size [.int .i64 rk, .int .i64 rc, .int .i64 ro, .int .i64 n] := blk_grown (blk_alloc HBX.out _) hg1 (by intro e; have e2 : some w.heap.size = some (w.heap.size + 1) := e; injection e2; omega)
  clear hown1 hg1
  have R1 : RL w1 g1 cap1 L := ⟨f5, f3, f4, hmx⟩
  have n1 : (1 : Int) ≤ n := h1
  have k0 : (0 : Int) ≤ k := by omega
  have kn : (k : Int) + n ≤ 256 := by omega
  clear f5 f3 f4 hr1
  go_wp2_with fail
  go_loopw [8] (fun i wr => ∃ m : Nat, m ≤ n ∧ i = .int .i64 ((k + m : Nat) : Int) ∧ RL wr g1 cap1 (lay L k (List.replicate m tl)) ∧ Below w.heap.size w wr ∧ Blk wr w.heap.size [.int .i64 rk, .int .i64 rc, .int .i64 ro, .int .i64 n]) (fun i _ => (512 - intOf i).toNat)
  case atStart => exact ⟨0, by omega, rfl, by rw [show lay L k (List.replicate 0 tl) = L by unfold lay; simp]; exact R1, hB1, BX1⟩
  case round =>
    obtain ⟨m, hm, rfl, R2, hB2, BX2⟩ := hrel
    obtain ⟨d0, d1, d2, d3, df⟩ := blk4 BX2
    have hl : (lay L k (List.replicate m tl)).length = L.length := lay_length (by simp; omega)
    have m0 : (0 : Int) ≤ ((k + m : Nat) : Int) := by omega
    have mk : (k : Int) ≤ ((k + m : Nat) : Int) := by omega
    have m1 : ((k + m : Nat) : Int) ≤ 256 := by omega
    by_cases hlt : m < n
    · have m2 : ((k + m : Nat) : Int) < (k : Int) + n := by omega
      have m3 : ((k + m : Nat) : Int) < L.length := by omega
      obtain ⟨x0, x1, x2, x3⟩ := rl_cells R2 (k + m) (by omega)
      have gf := R2.rw.2.2
      have HN : Hid ((lay L k (List.replicate m tl)).set (k + m) tl = lay L k (List.replicate (m + 1) tl)) := lay_step (by omega) tl
      have HR2 := Lib.hid R2
      have HBX2 := Lib.hid BX2
      have HL := Lib.hid hl
      generalize (lay L k (List.replicate m tl))[k + m] = y at *
      obtain ⟨i, hi⟩ : ∃ i, i = k + m := ⟨_, rfl⟩
      rw [← hi] at m0 m1 m2 m3 x0 x1 x2 x3 HN mk
      rw [← hi]
      have HI := Lib.hid hi
      clear R2 BX2 hl hi
      go_wp2_with fail
      have R5 : RL (wr.setCells g1 (i * 4) (cells4 tl)) g1 cap1 (lay L k (List.replicate (m + 1) tl)) := by rw [← HN.out]; exact rl_set HR2.out i (by rw [HL.out]; omega) _
      have hB5 : Below w.heap.size w (wr.setCells g1 (i * 4) (cells4 tl)) := b_grown hB2 (gb_sets _ _ (gb_refl wr (some g1))) (by omega)
      have BX5 : Blk (wr.setCells g1 (i * 4) (cells4 tl)) w.heap.size [.int .i64 rk, .int .i64 rc, .int .i64 ro, .int .i64 n] := blk_grown HBX2.out (gb_sets _ _ (gb_refl wr (some g1))) (fun e => by cases e; omega)
      exact ⟨⟨m + 1, by omega, by rw [HI.out]; go_num, R5, hB5, BX5⟩, by simp only [intOf]; omega⟩
    · have e : m = n := by omega
      subst e
      have k1 : (k : Int) < L.length := by omega
      have mm : ((k + m : Nat) : Int) = (k : Int) + m := by omega
      rw [mm]
      obtain ⟨x0, x1, x2, x3⟩ := rl_cells R2 k (by omega)
      have gf := R2.rw.2.2
      have HR2 := Lib.hid R2
      have HL := Lib.hid hl
      generalize (lay L k (List.replicate m tl))[k] = y at *
      clear R2 hl mm m0 m1
      go_wp2_with fail
      go_ret
      have R5 : RL (wr.setCells g1 (k * 4) (cells4 ⟨rk, rc, ro, m⟩)) g1 cap1 LL := by rw [HLD.out]; exact rl_set HR2.out k (by rw [HL.out]; omega) _
      have hB5 : Below w.heap.size w (wr.setCells g1 (k * 4) (cells4 ⟨rk, rc, ro, m⟩)) := b_grown hB2 (gb_sets _ _ (gb_refl wr (some g1))) (by omega)
      have e2 : LL.length = L.length := by rw [HLD.out, List.length_set, HL.out]
      exact ⟨g1, cap1, by unfold rv; rw [e2]; rfl, R5, by omega, hB5⟩
theorem rclear_any {w : World} {g cap : Nat} {L : List Row4} (h : RL w g cap L) (k n : Nat) (hk : k < L.length) (hr : L[k].n = n) (h2 : k + n ≤ L.length) :
    Calls Try.prog 28 #[rv g L cap, .int .i64 k] w (NewL w (cleared L k n)) := by
  have hmx := h.mx
  have hr0 := rl_read h
  have hg := h.rw.1
  obtain ⟨y0, y1, y2, y3⟩ := rl_cells h k hk
  rw [hr] at y3
  have HLD : Hid (cleared L k n = lay L k (List.replicate n zr)) := rfl
  generalize cleared L k n = LL at *
  clear h hr y0 y1 y2
  unfold rv
  go_enter Try.func28, Try.ntmps28
  go_upto_region 2 with (at_builtin; refine appendR rowRT rfl _ _ rfl w.heap.size _ [] rfl (own_emptyR (by simp)) _ L rfl (readR_below hr0 (b_alloc (Below.refl _ _) _)) ?c1 ?c2 ?c3 ?_; (case c1 => (simp; omega)); (case c2 => (unfold maxLen; simp; omega)); (case c3 => (simp)); intro v1 w1 hown1 hg1)
  rw [List.nil_append] at hown1
  have hB1 : Below w.heap.size w w1 := b_ownR (b_alloc (Below.refl _ _) _) (own_emptyR (c := quad) (E := 28) (by simp)) hg1
  obtain ⟨g1, cap1, rfl, f1, f2, f3, f4, f5⟩ := ownR_form hown1 (by omega)
  clear hown1 hg1
  have R1 : RL w1 g1 cap1 L := ⟨f5, f3, f4, hmx⟩
  have k0 : (0 : Int) ≤ k := by omega
  have k1 : (k : Int) < L.length := by omega
  have kn : (k : Int) + n ≤ 256 := by omega
  have n0 : (0 : Int) ≤ n := by omega
  rw [← (bcell hB1).1 _ _ hg] at y3
  clear f5 f3 f4 hr0
  go_wp2_with fail
  go_loopw [7] (fun i wr => ∃ m : Nat, m ≤ n ∧ i = .int .i64 ((k + m : Nat) : Int) ∧ RL wr g1 cap1 (lay L k (List.replicate m zr)) ∧ Below w.heap.size w wr) (fun i _ => (512 - intOf i).toNat)
  case atStart => exact ⟨0, by omega, rfl, by rw [show lay L k (List.replicate 0 zr) = L by unfold lay; simp]; exact R1, hB1⟩
  case round =>
    obtain ⟨m, hm, rfl, R2, hB2⟩ := hrel
    have hl : (lay L k (List.replicate m zr)).length = L.length := lay_length (by simp; omega)
    have m0 : (0 : Int) ≤ ((k + m : Nat) : Int) := by omega
    have m1 : ((k + m : Nat) : Int) ≤ 256 := by omega
    by_cases hlt : m < n
    · have m2 : ((k + m : Nat) : Int) < (k : Int) + n := by omega
      have m3 : ((k + m : Nat) : Int) < L.length := by omega
      obtain ⟨x0, x1, x2, x3⟩ := rl_cells R2 (k + m) (by omega)
      have gf := R2.rw.2.2
      have HN : Hid ((lay L k (List.replicate m zr)).set (k + m) zr = lay L k (List.replicate (m + 1) zr)) := lay_step (by omega) zr
      have HR2 := Lib.hid R2
      have HL := Lib.hid hl
      generalize (lay L k (List.replicate m zr))[k + m] = y at *
      obtain ⟨i, hi⟩ : ∃ i, i = k + m := ⟨_, rfl⟩
      rw [← hi] at m0 m1 m2 m3 x0 x1 x2 x3 HN
      rw [← hi]
      have HI := Lib.hid hi
      clear R2 hl hi
      go_wp2_with fail
      have R5 : RL (wr.setCells g1 (i * 4) (cells4 zr)) g1 cap1 (lay L k (List.replicate (m + 1) zr)) := by rw [← HN.out]; exact rl_set HR2.out i (by rw [HL.out]; omega) _
      have hB5 : Below w.heap.size w (wr.setCells g1 (i * 4) (cells4 zr)) := b_grown hB2 (gb_sets _ _ (gb_refl wr (some g1))) (by omega)
      exact ⟨⟨m + 1, by omega, by rw [HI.out]; go_num, R5, hB5⟩, by simp only [intOf]; omega⟩
    · have e : m = n := by omega
      subst e
      rw [← HLD.out] at R2 hl
      have m2 : ¬ ((k + m : Nat) : Int) < (k : Int) + m := by omega
      have HR2 := Lib.hid R2
      have HL := Lib.hid hl
      clear R2 hl
      go_wp2_with fail
      go_ret
      exact ⟨g1, cap1, by unfold rv; rw [HL.out]; rfl, HR2.out, by omega, hB2⟩
end Go.Proofs.Ytfbdnjmljdfjjaa
