/- Layer 25: numbers as bytes, one by one: ours and the document's. Conditions: the list reads as such. -/
import Derived.Test.YtdhkemnebppkhaaBytM
namespace Go.Proofs.Ytdhkemnebppkhaa
open Go.RowKit
set_option linter.unusedVariables false
set_option linter.unusedSimpArgs false
set_option maxHeartbeats 1000000 in
theorem plist_any (W w : World) (v u : Value) (xs l : List Int) (own : OwnB w W.heap.size v xs) (hW : Below W.heap.size W w) (h : ReadI W u l) (hx : xs.length + l.length + 2 ≤ 1099511627776) :
    Calls Try.prog 47 #[v, u] w (PutB W w (xs ++ lstB l)) := by
  obtain ⟨a, cap, rfl⟩ := readI_len h
  have hl : (l.length : Int) ≤ 9223372036854775807 := by
    obtain ⟨_, _, e, h1, h2, _⟩ := h; have := cap_le h2; omega
  have H := Lib.hid h
  have HX := Lib.hid hx
  have hs := hW.size
  clear h hx
  go_enter Try.func47, Try.ntmps47
  go_wp2_with (at_builtin; (refine appendB rfl _ _ rfl W.heap.size _ _ rfl (ownB_alloc own _) _ [(l.length : Int) % 256] rfl (read_oneB _ _) ?c1 ?c2 ?_); (case c1 => (have := HX.out; simp only [List.length_singleton]; omega)); (case c2 => (simp only [World.size_alloc]; omega)); intro v1 w1 own1 hg1; have hb1 := b_ownB (b_alloc hW _) (ownB_alloc own _) hg1; have hk1 := keepB_trans (keepB_below (b_alloc (Below.refl w.heap.size w) (.cells #[.int .u8 ((l.length : Int) % 256)] BYTT))) (keepB_own (ownB_alloc own _) hg1); clear hg1)
  have HB1 := Lib.hid hb1
  have HK1 := Lib.hid hk1
  have HO1 := Lib.hid own1
  clear hb1 hk1 own1
  go_loopw [0, 15] (fun v i wr => ∃ k : Nat, k ≤ l.length ∧ i = .int .i64 k ∧ Hid (OwnB wr W.heap.size v (xs ++ lstK l k)) ∧ Hid (Below W.heap.size W wr) ∧ Hid (KeepB w wr)) (fun _ i _ => l.length - (intOf i).toNat)
  case atStart => exact ⟨0, Nat.zero_le _, rfl, by rw [lstK_zero]; exact HO1.out, HB1.out, HK1.out⟩
  case round =>
    obtain ⟨k, hk, rfl, ho, hb, hkb⟩ := hrel
    have k0 : (0 : Int) ≤ k := by omega
    by_cases hlt : k < l.length
    · obtain ⟨bl, off, cp, e1, r1, r2, hbl, r4⟩ := readI_pos H.out (by omega)
      cases e1
      have k1 : (k : Int) < l.length := by omega
      have hc : wr.cell? ⟨bl, off + k, none⟩ = some (.int .i64 (l.getD k 0)) := (hb.out.cell (p := ⟨bl, off + k, none⟩) hbl).trans (r4 k hlt)
      have HL := Lib.hid (lstK_succ hlt)
      have hll := lstK_len l k
      have hs2 := hb.out.size
      generalize l.getD k 0 = x at *
      clear r4
      have HOA := Lib.hid (ownB_alloc ho.out (.cells #[.int .u8 (x % 256)] BYTT))
      have HLL := Lib.hid (show (xs ++ lstK l k).length + 1 ≤ 1099511627776 by have := HX.out; rw [List.length_append]; omega)
      clear hll
      go_wp2_with (at_builtin; (refine appendB rfl _ _ rfl W.heap.size _ _ rfl HOA.out _ [x % 256] rfl (read_oneB _ _) ?c3 ?c4 ?_); (case c3 => exact HLL.out); (case c4 => (simp only [World.size_alloc]; omega)); intro v2 w2 own2 hg2; have hb2 := b_ownB (b_alloc hb.out _) HOA.out hg2; have hk2 := keepB_trans (keepB_alloc hkb.out (.cells #[.int .u8 (x % 256)] BYTT)) (keepB_own HOA.out hg2); clear hg2)
      have HB2 := Lib.hid hb2
      have HK2 := Lib.hid hk2
      have HO2 := Lib.hid own2
      clear hb2 hk2 own2
      go_roundw
      case rel => exact ⟨k + 1, by omega, by first | rfl | trivial | go_num, by rw [HL.out, ← List.append_assoc]; exact HO2.out, HB2.out, HK2.out⟩
      case measure => simp [intOf]; omega
    · have e := lstK_all (l := l) (k := k) (by omega)
      have HE := Lib.hid e
      clear e
      go_wp2_with fail
      go_ret
      exact ⟨_, rfl, by rw [← HE.out]; exact ho.out, hb.out, hkb.out⟩
set_option maxHeartbeats 1000000 in
theorem rlist_any (w : World) (u : Value) (l : List Int) (h : ReadI w u l) (hx : l.length + 2 ≤ 1099511627776) :
    Calls Try.prog 55 #[u] w (RetOwnB w (lstB l)) := by
  obtain ⟨a, cap, rfl⟩ := readI_len h
  have hl : (l.length : Int) ≤ 9223372036854775807 := by
    obtain ⟨_, _, e, h1, h2, _⟩ := h; have := cap_le h2; omega
  have H := Lib.hid h
  have HX := Lib.hid hx
  clear h hx
  go_enter Try.func55, Try.ntmps55
  go_wp2_with fail
  go_loopw [3, 12] (fun v i wr => ∃ k : Nat, k ≤ l.length ∧ i = .int .i64 k ∧ Hid (OwnB wr w.heap.size v (lstK l k)) ∧ Hid (Below w.heap.size w wr)) (fun _ i _ => l.length - (intOf i).toNat)
  case atStart => exact ⟨0, Nat.zero_le _, rfl, by rw [lstK_zero]; exact ownB_lit _ (Nat.le_refl _), b_alloc (Below.refl _ _) _⟩
  case round =>
    obtain ⟨k, hk, rfl, ho, hb⟩ := hrel
    have k0 : (0 : Int) ≤ k := by omega
    by_cases hlt : k < l.length
    · obtain ⟨bl, off, cp, e1, r1, r2, hbl, r4⟩ := readI_pos H.out (by omega)
      cases e1
      have k1 : (k : Int) < l.length := by omega
      have hc : wr.cell? ⟨bl, off + k, none⟩ = some (.int .i64 (l.getD k 0)) := (hb.out.cell (p := ⟨bl, off + k, none⟩) hbl).trans (r4 k hlt)
      have HL := Lib.hid (lstK_succ hlt)
      have hll := lstK_len l k
      have hs2 := hb.out.size
      generalize l.getD k 0 = x at *
      clear r4
      have HOA := Lib.hid (ownB_alloc ho.out (.cells #[.int .u8 (x % 256)] BYTT))
      have HLL := Lib.hid (show (lstK l k).length + 1 ≤ 1099511627776 by have := HX.out; omega)
      clear hll
      go_wp2_with (at_builtin; (refine appendB rfl _ _ rfl w.heap.size _ _ rfl HOA.out _ [x % 256] rfl (read_oneB _ _) ?c3 ?c4 ?_); (case c3 => exact HLL.out); (case c4 => (simp only [World.size_alloc]; omega)); intro v2 w2 own2 hg2; have hb2 := b_ownB (b_alloc hb.out _) HOA.out hg2; clear hg2)
      have HB2 := Lib.hid hb2
      have HO2 := Lib.hid own2
      clear hb2 own2
      go_roundw
      case rel => exact ⟨k + 1, by omega, by first | rfl | trivial | go_num, by rw [HL.out]; exact HO2.out, HB2.out⟩
      case measure => simp [intOf]; omega
    · have e := lstK_all (l := l) (k := k) (by omega)
      have HE := Lib.hid e
      clear e
      go_wp2_with fail
      go_ret
      exact ⟨_, rfl, by rw [← HE.out]; exact ho.out, hb.out⟩
end Go.Proofs.Ytdhkemnebppkhaa
