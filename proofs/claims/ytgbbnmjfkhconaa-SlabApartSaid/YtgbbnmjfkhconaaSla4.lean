/- Layer 7: the contracts of linked, Check, of a slab that is whole; of Make. Conditions: those stated. -/
import Derived.Test.YtgbbnmjfkhconaaSla3
namespace Go.Proofs.Ytgbbnmjfkhconaa
open Go.RowKit
set_option linter.unusedVariables false
set_option linter.unusedSimpArgs false
attribute [local go_sem] over_cell over_frozen
variable {w w' : World} {b : SlB} {m : SlM} {P Z N : Nat} {fl : List Nat}
theorem good_flen (h : SGood m P Z N fl) : fl.length ≤ N := by
  rw [← good_count h]
  unfold cntS
  exact Nat.le_trans List.countP_le_length (by simp)
set_option maxHeartbeats 2000000 in
theorem slinked_any (h : SlAt w b m) (g : SGood m P Z N fl) : Calls Try.prog 96 #[sp b.s] w fun e w' => e = .returned (.bool true) ∧ Below w.heap.size w w' := by
  have hfl := good_flen g
  have hN := (cls_bd g.zn).2.2.2.1
  have HFo : Hid (∀ w' pre k rest, Below w.heap.size w w' → fl = pre ++ k :: rest → Calls Try.prog 87 #[sp b.s, .int .i64 (bsN P Z k : Nat)] w' fun e w'' => e = .returned (.tuple #[.int .i64 (hdI P Z rest), .bool true]) ∧ Below w'.heap.size w' w'') := Lib.hid (fun w' pre k rest hb he => sfollow_any (sl_below h hb) g he)
  have HL : Hid (∀ w', Below w.heap.size w w' → Calls Try.prog 97 #[sp b.lb] w' fun e w'' => e = .returned (.int .i64 N) ∧ w' = w'') := Lib.hid (fun w' hb => by
    obtain ⟨W, l⟩ := (sl_below h hb).li
    have z := blen_any l
    rw [g.ll] at z
    exact z)
  have HCN := Lib.hid (fun w' (hb : Below w.heap.size w w') => by
    have z := scount_any (sl_below h hb) 0
    rw [g.ll, good_count g] at z
    exact z)
  have HC : Hid (∀ w', Below w.heap.size w w' → (w'.cell? ⟨b.s, 5, none⟩ = some (sp b.lb) ∧ w'.cell? ⟨b.s, 7, none⟩ = some (.int .i64 (hdI P Z fl))) ∧ b.s < w'.heap.size) := Lib.hid (fun w' hb => by
    obtain ⟨_, ⟨x5, _⟩, x7⟩ := sl_cells (sl_below h hb)
    rw [g.fst] at x7
    exact ⟨⟨x5, x7⟩, (sl_below h hb).hd.1⟩)
  have HP := Lib.hid g.pm
  obtain ⟨⟨c5, c7⟩, cz⟩ := HC.out w (Below.refl _ _)
  unfold sp at *
  clear h g
  go_enter Try.func96, Try.ntmps96
  go_wp2_with fail
  clear c5 c7 cz
  go_loopw [3, 4] (fun nv av wr => ∃ pre suf : List Nat, Hid (fl = pre ++ suf) ∧ nv = .int .i64 pre.length ∧ av = .int .i64 (hdI P Z suf) ∧ Hid (Below w.heap.size w wr)) (fun nv _ _ => fl.length + 1 - (intOf nv).toNat)
  case atStart => exact ⟨[], fl, Lib.hid rfl, rfl, rfl, Lib.hid (Below.refl _ _)⟩
  case round =>
    obtain ⟨W1, hW1⟩ : ∃ x, x = wr := ⟨_, rfl⟩
    subst hW1
    obtain ⟨pre, suf, HE, rfl, rfl, HB⟩ := hrel
    have hlen : pre.length + suf.length = fl.length := by rw [HE.out, List.length_append]
    cases suf with
    | nil =>
      have e9 : hdI P Z [] = -1 := rfl
      rw [e9]
      have HEQ : Hid (pre.length = fl.length) := Lib.hid (by simpa using hlen)
      have HCW := Lib.hid (HCN.out W1 HB.out)
      rw [← HEQ.out] at HCW
      clear e9 hlen hfl
      generalize pre.length = n at *
      go_wp2_with fail
      refine HCW.out.mono ?_
      rintro e w2 ⟨rfl, rfl⟩
      go_wp2_with fail
      go_ret
      exact ⟨rfl, HB.out⟩
    | cons k rest =>
      have e9 : hdI P Z (k :: rest) = ((bsN P Z k : Nat) : Int) := rfl
      rw [e9]
      have HFK := Lib.hid (HFo.out W1 pre k rest HB.out HE.out)
      have HE2 : Hid (fl = (pre ++ [k]) ++ rest) := Lib.hid (by rw [HE.out]; simp)
      have HPL : Hid ((pre ++ [k]).length = pre.length + 1) := Lib.hid (by simp)
      have hpl : pre.length < fl.length := by simp at hlen; omega
      have n1 : ((pre.length : Nat) : Int) ≤ N := by omega
      have n2 : ((pre.length : Nat) : Int) ≤ 16 := by omega
      have hn1 : (((bsN P Z k : Nat) : Int) != -1) = true := by rw [bne_iff_ne]; omega
      generalize bsN P Z k = a at *
      obtain ⟨⟨c5, c7⟩, cz⟩ := HC.out W1 HB.out
      clear e9 hlen
      obtain ⟨n, hn⟩ : ∃ n, n = pre.length := ⟨_, rfl⟩
      rw [← hn] at hpl n1 n2 HPL ⊢
      clear hn
      have HLW := Lib.hid (HL.out W1 HB.out)
      go_wp2_with fail
      refine HLW.out.mono ?_
      rintro e w2 ⟨rfl, rfl⟩
      go_wp2_with fail
      refine HFK.out.mono ?_
      rintro e w3 ⟨rfl, hb3⟩
      have HB3 := Lib.hid (b_call HB.out hb3)
      clear hb3
      go_wp2_with fail
      go_roundw
      case rel => exact ⟨pre ++ [k], rest, HE2, by rw [HPL.out]; first | rfl | go_num, rfl, HB3⟩
      case measure => simp [intOf]; omega
set_option maxHeartbeats 2000000 in
theorem scheck_any (h : SlAt w b m) (g : SGood m P Z N fl) : Calls Try.prog 54 #[sp b.s] w fun e w' => e = .returned (.int .i64 0) ∧ Below w.heap.size w w' := by
  have hN := (cls_bd g.zn).2.2.2.1
  have HLK := Lib.hid (slinked_any h g)
  have HL : Hid (∀ w', Below w.heap.size w w' → Calls Try.prog 97 #[sp b.lb] w' fun e w'' => e = .returned (.int .i64 N) ∧ w' = w'') := Lib.hid (fun w' hb => by
    obtain ⟨W, l⟩ := (sl_below h hb).li
    have z := blen_any l
    rw [g.ll] at z
    exact z)
  have HS := Lib.hid (fun (k : Nat) w' (hb : Below w.heap.size w w') => sstate_any (sl_below h hb) (k : Int))
  have HST : Hid (∀ (k : Nat) w', k < N → m.ll.getD k false = true → Below w.heap.size w w' → Calls Try.prog 93 #[sp b.s, .int .i64 k] w' fun e w'' => e = .returned (.bool true) ∧ Below w'.heap.size w' w'') := Lib.hid (fun k w' hk hl hb => by
    have z := sstands_any (sl_below h hb) (k : Int)
    rw [good_stands g hk hl] at z
    exact z)
  have HG : Hid (∀ (k : Nat) w', k < N → m.hl.getD k false = true → Below w.heap.size w w' → Calls Try.prog 98 #[sp b.s, .int .i64 k] w' fun e w'' => e = .returned (.bool true) ∧ Below w'.heap.size w' w'') := Lib.hid (fun k w' hk hl hb => sgone_any (sl_below h hb) g hk hl)
  have H1 := Lib.hid (fun k => good_st1 g (k := k))
  have H2 := Lib.hid (fun k => good_st2 g (k := k))
  have HC : Hid (∀ w', Below w.heap.size w w' → w'.cell? ⟨b.s, 5, none⟩ = some (sp b.lb) ∧ b.s < w'.heap.size) := Lib.hid (fun w' hb => ⟨(sl_cells (sl_below h hb)).2.1.1, (sl_below h hb).hd.1⟩)
  unfold sp at *
  clear h g
  go_enter Try.func54, Try.ntmps54
  go_wp2_with fail
  refine HLK.out.mono ?_
  rintro e w1 ⟨rfl, hb1⟩
  have HB1 := Lib.hid hb1
  obtain ⟨c5, cz⟩ := HC.out w1 hb1
  clear hb1
  go_wp2_with fail
  refine (HL.out w1 HB1.out).mono ?_
  rintro e w2 ⟨rfl, rfl⟩
  clear c5 cz
  go_wp2_with fail
  go_loopw [3, 14] (fun ov kv wr => ∃ k : Nat, k ≤ N ∧ kv = .int .i64 k ∧ ov = .bool true ∧ Hid (Below w.heap.size w wr)) (fun _ kv _ => N - (intOf kv).toNat)
  case atStart => exact ⟨0, Nat.zero_le _, rfl, rfl, HB1⟩
  case round =>
    obtain ⟨W1, hW1⟩ : ∃ x, x = wr := ⟨_, rfl⟩
    subst hW1
    obtain ⟨k, hk, rfl, rfl, HB⟩ := hrel
    have k0 : (0 : Int) ≤ k := by omega
    by_cases hlt : k < N
    · have k1 : (k : Int) < N := by omega
      have HSK := Lib.hid (HS.out k W1 HB.out)
      have HK1 := Lib.hid (H1.out (k : Int))
      have HK2 := Lib.hid (H2.out (k : Int))
      rcases stI_cases m (k : Int) with q | q | q | q
      · rw [q] at HSK
        clear q HK1 HK2
        go_wp2_with fail
        refine HSK.out.mono ?_
        rintro e w3 ⟨rfl, rfl⟩
        go_wp2_with fail
        go_roundw
        case rel => exact ⟨k + 1, by omega, by first | rfl | go_num, by first | rfl | trivial, HB⟩
        case measure => simp [intOf]; omega
      · rw [q] at HSK
        clear q HK1 HK2
        go_wp2_with fail
        refine HSK.out.mono ?_
        rintro e w3 ⟨rfl, rfl⟩
        go_wp2_with fail
        go_roundw
        case rel => exact ⟨k + 1, by omega, by first | rfl | go_num, by first | rfl | trivial, HB⟩
        case measure => simp [intOf]; omega
      · obtain ⟨j, ej, _, hjl⟩ := HK1.out q
        have ejk : j = k := by omega
        subst ejk
        rw [q] at HSK
        have HSJ := Lib.hid (HST.out j W1 hlt hjl HB.out)
        clear q HK1 HK2 hjl ej
        go_wp2_with fail
        refine HSK.out.mono ?_
        rintro e w3 ⟨rfl, rfl⟩
        go_wp2_with fail
        refine HSJ.out.mono ?_
        rintro e w4 ⟨rfl, hb4⟩
        have HB4 := Lib.hid (b_call HB.out hb4)
        clear hb4
        go_wp2_with fail
        go_roundw
        case rel => exact ⟨j + 1, by omega, by first | rfl | go_num, by first | rfl | trivial, HB4⟩
        case measure => simp [intOf]; omega
      · obtain ⟨j, ej, _, _, hjl⟩ := HK2.out q
        have ejk : j = k := by omega
        subst ejk
        rw [q] at HSK
        have HSJ := Lib.hid (HG.out j W1 hlt hjl HB.out)
        clear q HK1 HK2 hjl ej
        go_wp2_with fail
        refine HSK.out.mono ?_
        rintro e w3 ⟨rfl, rfl⟩
        go_wp2_with fail
        refine HSJ.out.mono ?_
        rintro e w4 ⟨rfl, hb4⟩
        have HB4 := Lib.hid (b_call HB.out hb4)
        clear hb4
        go_wp2_with fail
        go_roundw
        case rel => exact ⟨j + 1, by omega, by first | rfl | go_num, by first | rfl | trivial, HB4⟩
        case measure => simp [intOf]; omega
    · have k1 : ¬ ((k : Int) < N) := by omega
      go_wp2_with fail
      go_ret
      exact ⟨rfl, HB.out⟩
end Go.Proofs.Ytgbbnmjfkhconaa
