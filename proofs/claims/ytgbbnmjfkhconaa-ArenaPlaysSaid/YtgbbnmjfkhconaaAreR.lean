/- Layer 3: the document's Do. Conditions: at most 65536 bytes; at most twelve acts, of kinds 0 to 2. -/
import Derived.Test.YtgbbnmjfkhconaaAreZ
namespace Go.Proofs.Ytgbbnmjfkhconaa
open Go.RowKit
set_option linter.unusedVariables false
set_option linter.unusedSimpArgs false
attribute [local go_sem] over_cell over_frozen
def R3Ret (w : World) (W : List Int) (A : List ActM) (g : Nat) (e : Ending) (w' : World) : Prop :=
  ∃ (n : Nat) (x : Int) (g' cap' : Nat), e = .returned (.tuple #[.int .i64 n, .int .i64 x, rowV g' (if x = 0 then stL W A A.length else W) cap']) ∧ DoneAt W A n x ∧ RowAt w' g' cap' (if x = 0 then stL W A A.length else W) ∧ (g' = g ∨ w.heap.size ≤ g') ∧ Below w.heap.size w w'
def R3St (w wr : World) (W : List Int) (A : List ActM) (g1 cap1 k : Nat) : Prop := k ≤ A.length ∧ (∀ j, j < k → ∀ t, A[j]? = some t → actE (stL W A j) t = 0) ∧ RowAt wr g1 cap1 (stL W A k) ∧ Below w.heap.size w wr
theorem r3_bad {w wr : World} {W : List Int} {A : List ActM} {g cap g1 cap1 k : Nat} {x : Int} (hk : k < A.length) (hok : ∀ j, j < k → ∀ t, A[j]? = some t → actE (stL W A j) t = 0) (hb : Below w.heap.size w wr) (he : actE (stL W A k) A[k] = x) (hx : x ≠ 0) (R : RowAt w g cap W) : R3Ret w W A g (.returned (.tuple #[.int .i64 k, .int .i64 x, rowV g W cap])) wr :=
  ⟨k, x, g, cap, by rw [if_neg hx], done_bad hk hok he hx, by rw [if_neg hx]; exact row_below R hb, Or.inl rfl, hb⟩
set_option maxRecDepth 100000 in
set_option maxHeartbeats 8000000 in
theorem r3do_any {w : World} {g cap : Nat} {W : List Int} {A : List ActM} (lv : Value) (R : RowAt w g cap W) (hr : ReadR actR w lv A) (hA : A.length ≤ 12) (hg : ∀ t ∈ A, GoodA t ∧ KindA t) : Calls Try.prog 34 #[rowV g W cap, lv] w (R3Ret w W A g) := by
  obtain ⟨la, lc, rfl, q1, q2, q3, q4⟩ := hr
  have hrd := readB_R (row_read R)
  have HR := Lib.hid R
  have HQ := Lib.hid q4
  have HG := Lib.hid hg
  have HA := Lib.hid hA
  have hA1 : (A.length : Int) ≤ 12 := by omega
  have hlc : (A.length : Int) ≤ lc := by omega
  have HRD := Lib.hid hrd
  have hmx := R.mx
  have HV : Hid (rowV g W cap = .slice (some ⟨g, 0, none⟩) W.length cap) := rfl
  rw [HV.out] at HRD ⊢
  clear R q4 q3 q1 hrd hg hA
  go_enter Try.func34, Try.ntmps34
  go_upto_region 1 with fail
  go_cut [7] from 11 to 13 (fun v wx => ∃ g1 cap1, v = .slice (some ⟨g1, 0, none⟩) W.length cap1 ∧ RowAt wx g1 cap1 W ∧ w.heap.size ≤ g1 ∧ Below w.heap.size w wx)
  case first =>
    rcases Nat.eq_zero_or_pos W.length with hz | hz
    · have e : W = [] := List.eq_nil_of_length_eq_zero hz
      subst e
      simp only [List.length_nil] at hz ⊢
      clear hz
      go_wp2_with (at_builtin; refine appendR0 (c := byE) rowByte rfl _ _ rfl w.heap.size ⟨g, 0, none⟩ cap rfl rfl ?_)
      go_meet
      case rel => exact ⟨w.heap.size, 0, rfl, ⟨blk_new w #[] _, Nat.le_refl _, Nat.zero_le _, (fun x hx => by cases hx), by simp⟩, Nat.le_refl _, b_alloc (Below.refl _ _) _⟩
    · go_wp2_with (at_builtin; refine appendR (c := byE) rowByte rfl _ _ rfl w.heap.size _ [] rfl (own_emptyR (Nat.le_refl _)) _ W rfl (readR_below HRD.out (b_alloc (Below.refl _ _) _)) ?c1 ?c2 ?c3 ?_; (case c1 => (simp; omega)); (case c2 => (unfold maxLen; simp; omega)); (case c3 => (simp)); intro v1 w1 hown1 hg1)
      rw [List.nil_append] at hown1
      have HB1 : Below w.heap.size w w1 := b_ownR (b_alloc (Below.refl _ _) _) (own_emptyR (c := byE) (E := 5) (Nat.le_refl _)) hg1
      obtain ⟨g1, cap1, rfl, f1, f2, f3, f4, f5⟩ := ownR_form hown1 hz
      rw [row_byts] at f5
      clear hown1 hg1
      go_meet
      case rel => exact ⟨g1, cap1, rfl, ⟨f5, f3, f4, HR.out.by_, HR.out.mx⟩, f1, HB1⟩
  case rest =>
  obtain ⟨g1, cap1, rfl, R1, hg1, hb1⟩ := hcut
  have S0 : Hid (R3St w wc W A g1 cap1 0) := ⟨Nat.zero_le _, fun j hj => by omega, R1, hb1⟩
  have HG1 := Lib.hid hg1
  have hcap1 := cap_le R1.cp
  have hle1 : (W.length : Int) ≤ cap1 := by have := R1.le; omega
  clear R1 hg1 hb1
  go_wp2_with fail
  go_loopw [16] (fun iv wr => ∃ k : Nat, iv = .int .i64 k ∧ k ≤ A.length ∧ Hid (R3St w wr W A g1 cap1 k)) (fun iv _ => A.length - (intOf iv).toNat)
  case atStart => exact ⟨0, rfl, Nat.zero_le _, S0.out⟩
  case round =>
    obtain ⟨k, rfl, hk, hS⟩ := hrel
    obtain ⟨_, hok, Rr, hbr⟩ := hS.out
    have k0 : (0 : Int) ≤ k := by omega
    by_cases hlt : k < A.length
    · obtain ⟨ab, ao, rfl, hab, h4⟩ := HQ.out (by omega)
      obtain ⟨x0, x1, x2⟩ := act_cells h4 k hlt
      rw [← (bcell hbr).1 _ _ hab] at x0 x1 x2
      have hst := stL_succ W A hlt
      have hgd := HG.out _ (List.getElem_mem hlt)
      have HBAD := Lib.hid (fun (x : Int) (wq : World) (hbq : Below w.heap.size w wq) he hx => r3_bad (cap1 := cap1) (g1 := g1) (x := x) hlt hok hbq he hx HR.out)
      have HOKS := Lib.hid (ok_step hlt hok)
      generalize A[k] = t at *
      obtain ⟨tk, tt, tx⟩ := t
      simp only at x0 x1 x2
      obtain ⟨⟨hx0, hx1⟩, hkind⟩ := hgd
      simp only at hx0 hx1
      have HX : Hid (0 ≤ tx ∧ tx < 18446744073709551616) := ⟨hx0, hx1⟩
      have HST := Lib.hid hst
      have k1 : (k : Int) < A.length := by omega
      have HLT := Lib.hid hlt
      have HRr := Lib.hid Rr
      have BX : Hid (Blk (wr.alloc (.cells #[.int .i64 tk, .int .i64 tt, .int .u64 tx] 45)) wr.heap.size [.int .i64 tk, .int .i64 tt, .int .u64 tx]) := blk_new _ _ _
      have HBx : Hid (Below w.heap.size w (wr.alloc (.cells #[.int .i64 tk, .int .i64 tt, .int .u64 tx] 45))) := b_alloc hbr _
      have HRx := Lib.hid (row_below Rr (b_alloc (Below.refl wr.heap.size wr) (.cells #[.int .i64 tk, .int .i64 tt, .int .u64 tx] 45)))
      have HSL : Hid ((stL W A k).length = W.length) := stL_length _ _ _
      have HWD := r3word_any HRx.out tt
      have HRV : Hid (rowV g1 (stL W A k) cap1 = .slice (some ⟨g1, 0, none⟩) W.length cap1) := by show _ = _; unfold rowV; rw [HSL.out]
      rw [HRV.out] at HWD
      clear h4 hst hx0 hx1 Rr hbr hok
      rcases (show tk = 0 ∨ tk = 1 ∨ tk = 2 from hkind) with h | h | h
      · subst h
        obtain ⟨z0, z1, z2, zf⟩ := blk3 BX.out
        by_cases he : wordE (stL W A k).length tt = 0
        · rw [he, if_pos rfl] at HWD
          have HWH := Lib.hid HWD
          have HE := Lib.hid he
          clear HWD he
          go_wp2_with fail
          refine HWH.out.mono ?_
          rintro e w7 ⟨rfl, rfl⟩
          go_wp2_with fail
          refine ⟨⟨k + 1, by go_num, HLT.out, HLT.out, HOKS.out (by rw [actE_get rfl]; exact HE.out), by rw [HST.out]; exact HRx.out, HBx.out⟩, by simp only [intOf]; omega⟩
        · rw [if_neg he] at HWD
          have HE : Hid (actE (stL W A k) ⟨0, tt, tx⟩ = wordE (stL W A k).length tt) := actE_get rfl
          have HNE := Lib.hid he
          have hnb : (wordE (stL W A k).length tt == 0) = false := by rw [beq_eq_false_iff_ne]; exact he
          have HBQ := Lib.hid (HBAD.out _ _ HBx.out HE.out HNE.out)
          clear he HE HNE
          generalize wordE (stL W A k).length tt = y at *
          have HWH := Lib.hid HWD
          clear HWD
          go_wp2_with fail
          refine HWH.out.mono ?_
          rintro e w7 ⟨rfl, rfl⟩
          go_wp2_with fail
          exact bodyPost_ret (v := .tuple #[.int .i64 k, .int .i64 y, rowV g W cap]) (by simp [results, Try.results34, go_sem]; exact HV.out.symm) rfl HBQ.out
      · subst h
        obtain ⟨z0, z1, z2, zf⟩ := blk3 BX.out
        by_cases he : wordE (stL W A k).length tt = 0
        · rw [he, if_pos rfl] at HWD
          have HWH := Lib.hid HWD
          have HE := Lib.hid he
          obtain ⟨p, rfl, hp⟩ : ∃ p : Nat, tt = p ∧ p + 8 ≤ (stL W A k).length := by
            rcases wordE_cases (stL W A k).length tt with ⟨h, _⟩ | ⟨h, _⟩ | ⟨_, _, k, e, hk, _⟩
            · omega
            · omega
            · exact ⟨k, e, hk⟩
          have HPP := Lib.hid hp
          have p0 : (0 : Int) ≤ p := by omega
          have p1 : (p : Int) ≤ W.length := by have := HSL.out; omega
          have p2 : (p : Int) ≤ cap1 := by omega
          have p3 : ¬ (cap1 = p) := by have := HSL.out; omega
          have HXC : Hid (∀ w', Below (wr.alloc (.cells #[.int .i64 1, .int .i64 p, .int .u64 tx] 45)).heap.size (wr.alloc (.cells #[.int .i64 1, .int .i64 p, .int .u64 tx] 45)) w' → w'.cell? ⟨wr.heap.size, 1, none⟩ = some (.int .i64 p) ∧ w'.cell? ⟨wr.heap.size, 2, none⟩ = some (.int .u64 tx)) := Lib.hid (fun w' hb => by
            obtain ⟨_, y1, y2, _⟩ := blk3 (blk_below BX.out hb); exact ⟨y1, y2⟩)
          clear HWD he hp
          go_wp2_with fail
          refine HWH.out.mono ?_
          rintro e w7 ⟨rfl, rfl⟩
          go_wp2_with fail
          refine wp_region_E (S := fun w' => w'.cell? ⟨wr.heap.size, 1, none⟩ = some (.int .i64 p) ∧ w'.cell? ⟨wr.heap.size, 2, none⟩ = some (.int .u64 tx)) 7 (by kernel_rfl) (HXC.out _ (b_drew (Below.refl _ _))) (fun hHeld => ?_)
          clear z0 z1 z2 zf
          (refine wpAnyE_take (n := 12) (i := 0) (v := ?_) rfl (by kernel_rfl) (by kernel_rfl) (by kernel_rfl) (by kernel_rfl) (by kernel_rfl) (fun _ _ _ h => h) (Or.inl ⟨by rfl, ?_⟩) hHeld ?_; rotate_left; (focus (intro w hSw; (try dsimp only at hSw); go_simp; try (with_reducible rfl))); (try simp only [Act.put, List.getElem_toArray, List.getElem_cons_succ, List.getElem_cons_zero, List.setIfInBounds_toArray, List.set_cons_zero, List.set_cons_succ]))
          (refine wpAnyE_take (n := 12) (i := 1) (v := ?_) rfl (by kernel_rfl) (by kernel_rfl) (by kernel_rfl) (by kernel_rfl) (by kernel_rfl) (fun _ _ _ h => h) (Or.inl ⟨by rfl, ?_⟩) hHeld ?_; rotate_left; (focus (intro w hSw; (try dsimp only at hSw); go_simp; try (with_reducible rfl))); (try simp only [Act.put, List.getElem_toArray, List.getElem_cons_succ, List.getElem_cons_zero, List.setIfInBounds_toArray, List.set_cons_zero, List.set_cons_succ]))
          (refine wpAnyE_take (n := 12) (i := 2) (v := ?_) rfl (by kernel_rfl) (by kernel_rfl) (by kernel_rfl) (by kernel_rfl) (by kernel_rfl) (fun _ _ _ h => h) (Or.inl ⟨by rfl, ?_⟩) hHeld ?_; rotate_left; (focus (intro w hSw; (try dsimp only at hSw); go_simp; try (with_reducible rfl))); (try simp only [Act.put, List.getElem_toArray, List.getElem_cons_succ, List.getElem_cons_zero, List.setIfInBounds_toArray, List.set_cons_zero, List.set_cons_succ]))
          (refine wpAnyE_take (n := 12) (i := 3) (v := ?_) rfl (by kernel_rfl) (by kernel_rfl) (by kernel_rfl) (by kernel_rfl) (by kernel_rfl) (fun _ _ _ h => h) (Or.inl ⟨by rfl, ?_⟩) hHeld ?_; rotate_left; (focus (intro w hSw; (try dsimp only at hSw); go_simp; try (with_reducible rfl))); (try simp only [Act.put, List.getElem_toArray, List.getElem_cons_succ, List.getElem_cons_zero, List.setIfInBounds_toArray, List.set_cons_zero, List.set_cons_succ]))
          (refine wpAnyE_take (n := 12) (i := 4) (v := ?_) rfl (by kernel_rfl) (by kernel_rfl) (by kernel_rfl) (by kernel_rfl) (by kernel_rfl) (fun _ _ _ h => h) (Or.inl ⟨by rfl, ?_⟩) hHeld ?_; rotate_left; (focus (intro w hSw; (try dsimp only at hSw); go_simp; try (with_reducible rfl))); (try simp only [Act.put, List.getElem_toArray, List.getElem_cons_succ, List.getElem_cons_zero, List.setIfInBounds_toArray, List.set_cons_zero, List.set_cons_succ]))
          (refine wpAnyE_take (n := 12) (i := 5) (v := ?_) rfl (by kernel_rfl) (by kernel_rfl) (by kernel_rfl) (by kernel_rfl) (by kernel_rfl) (fun _ _ _ h => h) (Or.inl ⟨by rfl, ?_⟩) hHeld ?_; rotate_left; (focus (intro w hSw; (try dsimp only at hSw); go_simp; try (with_reducible rfl))); (try simp only [Act.put, List.getElem_toArray, List.getElem_cons_succ, List.getElem_cons_zero, List.setIfInBounds_toArray, List.set_cons_zero, List.set_cons_succ]))
          refine wpAnyE_ready (rs := [6]) (by kernel_rfl) (by simp) (AllReadyE.cons rfl (fun K hK => ?_) AllReadyE.nil)
          go_simp
          refine (rnput_any 8 tx _ (by decide) HX.out.1 HX.out.2).mono ?_
          rintro e w8 ⟨v8, rfl, own8, hb8⟩
          have hB8 := b_call (b_drew (Below.refl _ _)) hb8
          have HB8 := Lib.hid hB8
          refine hK.out _ _ (HXC.out _ HB8.out) (fun hHeld => ?_)
          clear hK K
          (try simp only [Act.put, List.getElem_toArray, List.getElem_cons_succ, List.getElem_cons_zero, List.setIfInBounds_toArray, List.set_cons_zero, List.set_cons_succ])
          have R8 := row_below HRx.out HB8.out
          refine wpAnyE_ready (rs := [7]) (by kernel_rfl) (by simp) (AllReadyE.last rfl (fun K hK => ?_))
          refine step_copyB rfl _ _ _ _ 5 rfl under_byts szByte g1 p (W.length - p) (cap1 - p) _ (stL W A k) (putL 8 tx) _ rfl (fun _ => rfl) (by rw [putL_length]; have := HPP.out; have := HSL.out; omega) rfl (ownB_read own8) R8.rw (by rw [putL_length]; exact HPP.out) ?_
          have R9 := row_lay R8 (M := putL 8 tx) (by rw [putL_length]; exact HPP.out) (isBytes_putL _ _)
          have B9 : Below w.heap.size w (w8.setCells g1 p (byts (putL 8 tx))) := b_grown (b_call HBx.out HB8.out) (gb_sets _ _ (gb_refl _ _)) HG1.out
          generalize w8.setCells g1 p (byts (putL 8 tx)) = w9 at *
          have HR9 := Lib.hid R9
          have HB9 := Lib.hid B9
          clear R8 R9 B9 own8 hb8 hB8
          refine hK.out _ _ (trivial) (fun hHeld => ?_)
          clear hK K
          (try simp only [Act.put, List.getElem_toArray, List.getElem_cons_succ, List.getElem_cons_zero, List.setIfInBounds_toArray, List.set_cons_zero, List.set_cons_succ])
          refine wpAnyE_done (by kernel_rfl) ?_
          go_wp2_with fail
          refine ⟨⟨k + 1, by go_num, HLT.out, HLT.out, HOKS.out (by rw [actE_set rfl]; exact HE.out), ?_, HB9.out⟩, by simp only [intOf]; omega⟩
          rw [HST.out]
          have e3 : actL (stL W A k) ⟨1, (p : Int), tx⟩ = lay (stL W A k) p (putL 8 tx) := by unfold actL; rw [if_pos rfl, setW_ok HE.out, Int.toNat_natCast]
          rw [e3]; exact HR9.out
        · rw [if_neg he] at HWD
          have HE : Hid (actE (stL W A k) ⟨1, tt, tx⟩ = wordE (stL W A k).length tt) := actE_set rfl
          have HNE := Lib.hid he
          have hnb : (wordE (stL W A k).length tt == 0) = false := by rw [beq_eq_false_iff_ne]; exact he
          have HBQ := Lib.hid (HBAD.out _ _ HBx.out HE.out HNE.out)
          clear he HE HNE
          generalize wordE (stL W A k).length tt = y at *
          have HWH := Lib.hid HWD
          clear HWD
          go_wp2_with fail
          refine HWH.out.mono ?_
          rintro e w7 ⟨rfl, rfl⟩
          go_wp2_with fail
          exact bodyPost_ret (v := .tuple #[.int .i64 k, .int .i64 y, rowV g W cap]) (by simp [results, Try.results34, go_sem]; exact HV.out.symm) rfl HBQ.out
      · subst h
        obtain ⟨z0, z1, z2, zf⟩ := blk3 BX.out
        have htm : tx.tmod 2 = tx % 2 := Int.tmod_eq_emod_of_nonneg HX.out.1
        clear HWD
        by_cases he : tx % 2 = 1
        · have HE : Hid (actE (stL W A k) ⟨2, tt, tx⟩ = 0) := by show _ = _; rw [actE_need rfl]; exact if_pos he
          rw [he] at htm
          clear he
          go_wp2_with fail
          refine ⟨⟨k + 1, by go_num, HLT.out, HLT.out, HOKS.out HE.out, by rw [HST.out]; exact HRx.out, HBx.out⟩, by simp only [intOf]; omega⟩
        · have htm2 : tx.tmod 2 = 0 := by rw [htm]; omega
          have HE : actE (stL W A k) ⟨2, tt, tx⟩ = 8 := by rw [actE_need rfl]; exact if_neg he
          have HBQ := Lib.hid (HBAD.out _ _ HBx.out HE (by decide))
          clear he htm HE
          go_wp2_with fail
          exact bodyPost_ret (v := .tuple #[.int .i64 k, .int .i64 8, rowV g W cap]) (by simp [results, Try.results34, go_sem]; exact HV.out.symm) rfl HBQ.out
    · have e : k = A.length := by omega
      subst e
      have HF : Hid (R3Ret w W A g (.returned (.tuple #[.int .i64 A.length, .int .i64 0, rowV g1 (stL W A A.length) cap1])) wr) := ⟨A.length, 0, g1, cap1, by rw [if_pos rfl], done_end hok, by rw [if_pos rfl]; exact Rr, Or.inr HG1.out, hbr⟩
      have HRV : Hid (rowV g1 (stL W A A.length) cap1 = .slice (some ⟨g1, 0, none⟩) W.length cap1) := by show _ = _; unfold rowV; rw [stL_length]
      clear Rr hbr hok
      go_wp2_with fail
      exact bodyPost_ret (v := .tuple #[.int .i64 A.length, .int .i64 0, rowV g1 (stL W A A.length) cap1]) (by simp [results, Try.results34, go_sem]; exact HRV.out.symm) rfl HF.out
end Go.Proofs.Ytgbbnmjfkhconaa
