/- SlabOrder, walked. Conditions: the numbers are of their kinds. -/
import Derived.Test.YtgbbnmjfkhconaaSla7
namespace Go.Proofs.Ytgbbnmjfkhconaa
open Go.RowKit
set_option linter.unusedVariables false
set_option linter.unusedSimpArgs false
attribute [local go_sem] over_cell over_frozen
variable {w w' : World} {b : SlB} {m : SlM} {P Z N : Nat} {fl : List Nat}
theorem i64_and3 (n : Int) : bits .and .i64 n 3 = n % 4 := by
  have h127 : (BitVec.ofInt 64 3).toNat = 2 ^ 2 - 1 := by decide
  have key : (BitVec.ofInt 64 n &&& BitVec.ofInt 64 3).toNat = (n % ((2 ^ 64 : Nat) : Int)).toNat % 2 ^ 2 := by
    rw [BitVec.toNat_and, BitVec.toNat_ofInt, h127, Nat.and_two_pow_sub_one_eq_mod]
  show IntKind.i64.wrap ((BitVec.ofInt 64 n &&& BitVec.ofInt 64 3).toNat : Nat) = n % 4
  rw [key, IntKind.wrap_i64]
  omega
theorem cls_and (c : Int) : ∃ cl Z N, bits .and .i64 c 3 = cl ∧ ClsOf cl Z N := by
  obtain ⟨Z, N, h⟩ := cls_of (c % 4) (by omega) (by omega)
  exact ⟨_, Z, N, i64_and3 c, h⟩
theorem new_hl (g : SGood m P Z N (List.range N)) (k : Nat) : m.hl.getD k false = false := by
  by_cases hk : k < N
  · exact ((g.fr k).1 (List.mem_range.2 hk)).2.2
  · rw [List.getD_eq_getElem?_getD, List.getElem?_eq_none (by rw [g.hl]; omega)]; rfl
theorem all_live (g : SGood m P Z N []) (hh : ∀ k, m.hl.getD k false = false) : cntS m 1 N = N := by
  unfold cntS
  have e : (List.range N).countP (fun (k : Nat) => decide (stI m (k : Int) = 1)) = (List.range N).length := by
    rw [List.countP_eq_length]
    intro k hk
    have hkN := List.mem_range.1 hk
    rw [decide_eq_true_eq, good_st_nat g hkN]
    cases q : m.ll.getD k false with
    | true => rfl
    | false => exact absurd ((g.fr k).2 ⟨hkN, q, hh k⟩) (by simp)
  rw [e, List.length_range]
set_option maxHeartbeats 4000000 in
theorem slabOrder_any (seed cl0 c : Int) (s0 : 0 ≤ seed) (s1 : seed < 18446744073709551616) (c0 : 0 ≤ c ∧ c < 256) (w : World) : Calls Try.prog 10 #[.int .u64 seed, .int .i64 cl0, .int .u8 c] w fun e w' => e = .returned (.bool true) ∧ Below w.heap.size w w' := by
  obtain ⟨cl, Z, N, ecl, hz⟩ := cls_and cl0
  have HLM := Lib.hid (lmake7 seed cl c s0 s1 c0 hz w)
  have HSL := Lib.hid (fun w' => rslots_any cl w')
  rw [(cls_nums hz).2.1] at HSL
  obtain ⟨_, _, z2, z16, _⟩ := cls_bd hz
  have nN : (N : Int) ≤ 16 := by omega
  clear hz s0 s1 c0
  go_enter Try.func10, Try.ntmps10
  go_wp2_with fail
  refine HLM.out.mono ?_
  rintro e w1 ⟨p, rs, b, m, rfl, hp, hg, ⟨hcl, hlen⟩, hnew, hnp, hb1⟩
  have HP := Lib.hid hp
  have HNW := Lib.hid hnew
  have HNP := Lib.hid hnp
  have HB1 := Lib.hid hb1
  have H1 := Lib.hid hg
  clear hp hg hcl hlen hnew hnp hb1 HLM
  unfold tp at *
  go_wp2_with fail
  go_loopw [8] (fun kv wr => ∃ j : Nat, j ≤ N ∧ kv = .int .i64 j ∧ Hid (∃ m, SlG wr b m 1 Z N ((List.range N).drop j) ∧ ∀ k, m.hl.getD k false = false) ∧ Hid (Blk wr p [.pointer (some ⟨b.ab, 0, none⟩), sp b.s, .pointer (some ⟨rs, 0, none⟩)]) ∧ Hid (Below w.heap.size w wr)) (fun kv _ => N - (intOf kv).toNat)
  case atStart => exact ⟨0, Nat.zero_le _, rfl, Lib.hid ⟨m, H1.out, new_hl H1.out.g⟩, HP, HB1⟩
  case round =>
    clear H1 HB1 HP
    obtain ⟨W2, hW2⟩ : ∃ x, x = wr := ⟨_, rfl⟩
    subst hW2
    obtain ⟨j, hj, rfl, HM, HP, HB⟩ := hrel
    obtain ⟨m2, hm2, hhl⟩ := HM.out
    have H2 := Lib.hid hm2
    have HHL := Lib.hid hhl
    clear hm2 hhl HM
    have j0 : (0 : Int) ≤ j := by omega
    obtain ⟨p0, p1, p2, _⟩ := blk3 HP.out
    have pz := HP.out.1
    unfold sp at p1
    by_cases hlt : j < N
    · have j1 : (j : Int) < N := by omega
      have hd : (List.range N).drop j = j :: (List.range N).drop (j + 1) := by
        rw [List.drop_eq_getElem_cons (by simpa using hlt), List.getElem_range]
      rw [hd] at H2
      have HT := Lib.hid (stake_any H2.out.a H2.out.g)
      unfold sp at HT
      have hjj : ((j : Int) != j) = false := by simp
      clear hd
      go_wp2_with fail
      refine (HSL.out _).mono ?_
      rintro e w3 ⟨rfl, rfl⟩
      go_wp2_with fail
      refine HT.out.mono ?_
      rintro e w4 ⟨rfl, ha4, hg4⟩
      have HB4 := Lib.hid (b_slx HB.out HNW.out hg4)
      have H4 := Lib.hid (show SlG w4 b (takeM m2 1 Z j ((List.range N).drop (j + 1))) 1 Z N ((List.range N).drop (j + 1)) from ⟨ha4, (good_take H2.out.g).1⟩)
      have HP4 := Lib.hid (blk_gx HP.out hg4 HNP.out)
      have HHL4 : Hid (∀ k, (takeM m2 1 Z j ((List.range N).drop (j + 1))).hl.getD k false = false) := Lib.hid (fun k => HHL.out k)
      clear ha4 hg4 HT p0 p1 p2 pz
      obtain ⟨p0, p1, p2, _⟩ := blk3 HP4.out
      have pz := HP4.out.1
      unfold sp at p1
      have HCK := Lib.hid (scheck_any H4.out.a H4.out.g)
      unfold sp at HCK
      go_wp2_with fail
      refine HCK.out.mono ?_
      rintro e w5 ⟨rfl, hb5⟩
      have HB5 := Lib.hid (b_call HB4.out hb5)
      have H5 := Lib.hid (show SlG w5 b _ 1 Z N ((List.range N).drop (j + 1)) from ⟨sl_below H4.out.a hb5, H4.out.g⟩)
      have HP5 := Lib.hid (blk_below HP4.out hb5)
      clear hb5 p0 p1 p2 pz HCK
      go_wp2_with fail
      go_roundw
      case rel => exact ⟨j + 1, by omega, by first | rfl | go_num, Lib.hid ⟨_, H5.out, HHL4.out⟩, HP5, HB5⟩
      case measure => simp [intOf] <;> omega
    · have j1 : ¬ ((j : Int) < N) := by omega
      have hd : (List.range N).drop j = [] := List.drop_eq_nil_of_le (by simp; omega)
      rw [hd] at H2
      have HT := Lib.hid (stake_none H2.out.a H2.out.g)
      have HCT := Lib.hid (scount_any H2.out.a 1)
      rw [H2.out.g.ll, all_live H2.out.g HHL.out] at HCT
      unfold sp at HT HCT
      have hnn : ((N : Int) == N) = true := by simp
      clear hd
      go_wp2_with fail
      refine (HSL.out _).mono ?_
      rintro e w3 ⟨rfl, rfl⟩
      go_wp2_with fail
      refine HT.out.mono ?_
      rintro e w4 ⟨rfl, rfl⟩
      go_wp2_with fail
      refine HCT.out.mono ?_
      rintro e w4 ⟨rfl, rfl⟩
      go_wp2_with fail
      refine (HSL.out _).mono ?_
      rintro e w4 ⟨rfl, rfl⟩
      go_wp2_with fail
      refine (awake7 _).mono ?_
      rintro e w5 ⟨rfl, hb5⟩
      have HB5 := Lib.hid (b_call HB.out hb5)
      clear hb5 p0 p1 p2 pz
      go_wp2_with fail
      go_ret
      exact ⟨rfl, HB5.out⟩
end Go.Proofs.Ytgbbnmjfkhconaa
