/- Layer 25: a reader's functions. Conditions: the reader stands, its bytes are bytes. -/
import Derived.Test.YtdhkemnebppkhaaRd25
import Derived.Test.YtdhkemnebppkhaaInstrReadAll
namespace Go.Proofs.Ytdhkemnebppkhaa
open Go.RowKit
set_option linter.unusedVariables false
set_option linter.unusedSimpArgs false
theorem must_yes (w : World) : Calls Try.prog 66 #[.bool true] w fun e w' => e = .returned (.tuple #[]) ∧ w = w' := by
  go_enter Try.func66, Try.ntmps66
  go_wp2_with fail
  exact ⟨rfl, .tuple #[], by simp [results, Try.results66, go_sem], rfl, rfl⟩
theorem must_no (w : World) : Calls Try.prog 66 #[.bool false] w fun e w' => Fell e ∧ w = w' := by
  go_enter Try.func66, Try.ntmps66
  go_wp2_with fail
  exact ⟨rfl, rfl, rfl⟩
theorem take_no (g : Nat) (n : Int) (xs : List Int) (w : World) (h : RdSt w g xs) (hn : (xs.length : Int) < n) : Calls Try.prog 67 #[.pointer (some ⟨g, 0, none⟩), .int .i64 n] w fun e w' => Fell e ∧ w = w' := by
  obtain ⟨_, v, h1, h2, _⟩ := h
  obtain ⟨a, cap, rfl⟩ := readB_len h2
  obtain ⟨c0, cf⟩ := blk1 h1
  have hl : (xs.length : Int) ≤ 9223372036854775807 := by
    obtain ⟨_, _, e, q1, q2, _⟩ := h2; have := cap_le q2; omega
  have t : ¬ n ≤ (xs.length : Int) := by omega
  clear h1 h2
  go_enter Try.func67, Try.ntmps67
  go_wp2_with fail
  refine (must_no _).mono ?_
  rintro e w1 ⟨rfl, rfl⟩
  go_wp2_with fail
  exact ⟨rfl, rfl, rfl⟩
set_option maxHeartbeats 800000 in
theorem take_ok (g : Nat) (n : Int) (xs : List Int) (w : World) (h : RdSt w g xs) (hn1 : 1 ≤ n) (hn : n ≤ (xs.length : Int)) : Calls Try.prog 67 #[.pointer (some ⟨g, 0, none⟩), .int .i64 n] w fun e w' => ∃ v, e = .returned v ∧ ReadB w' v (xs.take n.toNat) ∧ RdSt w' g (xs.drop n.toNat) ∧ w.grownBy w' (some g) := by
  obtain ⟨k, rfl⟩ : ∃ k : Nat, n = k := ⟨n.toNat, by omega⟩
  have hk : k ≤ xs.length := by omega
  rw [Int.toNat_natCast]
  obtain ⟨ht, v, h1, h2, h3⟩ := h
  obtain ⟨b, o, cap, rfl, r1, r2, r3, r4⟩ := readB_pos h2 (by omega)
  obtain ⟨c0, cf⟩ := blk1 h1
  have hcm := cap_le r2
  have hkc : (k : Int) ≤ cap := by omega
  have k0 : (0 : Int) ≤ k := by omega
  have r1' : (xs.length : Int) ≤ cap := by omega
  have hbg := h3 b rfl
  have H1 := Lib.hid h1
  have HT := Lib.hid ht
  have HA := Lib.hid (readB_take h2 hk)
  have HB := Lib.hid (readB_from h2 hk)
  have HS : Hid (∀ u, w.grownBy (w.setCell ⟨g, 0, none⟩ u) (some g)) := fun u => gb_set (gb_refl w (some g)) 0 none u
  have HK : Hid (∀ (u v : Value) (ys : List Int), v.ownBlock = some b → ReadB w v ys → ReadB (w.setCell ⟨g, 0, none⟩ u) v ys) := fun u v ys e hr => readB_kept hr (fun b' hb' hlt => Below.heap_setCell _ _ _ _ (by rw [e] at hb'; injection hb' with hb'; simp only; omega)) (by simp)
  clear h1 h2 h3 r4 ht
  by_cases hcap : cap = k
  · rw [if_pos hcap] at HB
    have hx : xs.length = k := by omega
    go_enter Try.func67, Try.ntmps67
    go_wp2_with fail
    refine (must_yes _).mono ?_
    rintro e w1 ⟨rfl, rfl⟩
    go_wp2_with fail
    go_ret
    rw [show xs.length - k = 0 by omega, show cap - k = 0 by omega] at HB
    subst hcap
    exact ⟨_, rfl, HK.out _ _ _ rfl HA.out, ⟨by rw [tyB_set]; exact HT.out, _, blk_set H1.out 0 _, HK.out _ _ _ rfl HB.out, fun j hj => by
      have e1 : some b = some j := hj
      injection e1 with e1; omega⟩, HS.out _⟩
  · rw [if_neg hcap] at HB
    go_enter Try.func67, Try.ntmps67
    go_wp2_with fail
    refine (must_yes _).mono ?_
    rintro e w1 ⟨rfl, rfl⟩
    go_wp2_with fail
    go_ret
    exact ⟨_, rfl, HK.out _ _ _ rfl HA.out, ⟨by rw [tyB_set]; exact HT.out, _, blk_set H1.out 0 _, HK.out _ _ _ rfl HB.out, fun j hj => by
      have e1 : some b = some j := hj
      injection e1 with e1; omega⟩, HS.out _⟩
theorem num_no (g : Nat) (w : World) (h : RdSt w g []) : Calls Try.prog 68 #[.pointer (some ⟨g, 0, none⟩)] w fun e w' => Fell e ∧ w = w' := by
  go_enter Try.func68, Try.ntmps68
  go_wp2_with fail
  refine (take_no g 1 [] _ h (by decide)).mono ?_
  rintro e w1 ⟨rfl, rfl⟩
  go_wp2_with fail
  exact ⟨rfl, rfl, rfl⟩
theorem num_ok (g : Nat) (x : Int) (r : List Int) (w : World) (h : RdSt w g (x :: r)) (hx : 0 ≤ x ∧ x < 256) : Calls Try.prog 68 #[.pointer (some ⟨g, 0, none⟩)] w fun e w' => e = .returned (.int .i64 x) ∧ RdSt w' g r ∧ w.grownBy w' (some g) := by
  obtain ⟨x0, x1⟩ := hx
  have H := Lib.hid h
  clear h
  go_enter Try.func68, Try.ntmps68
  go_wp2_with fail
  refine (take_ok g 1 (x :: r) _ H.out (by decide) (by simp only [List.length_cons]; omega)).mono ?_
  rintro e w1 ⟨v, rfl, hr, hst, hg⟩
  have hr : ReadB w1 v [x] := hr
  have hst : RdSt w1 g r := hst
  obtain ⟨b, o, cap, hv, r1, r2, r3, r4⟩ := readB_pos hr (by simp)
  have hv : v = .slice (some ⟨b, o, none⟩) 1 cap := hv
  subst hv
  have c0 : w1.cell? ⟨b, o, none⟩ = some (.int .u8 x) := r4 0 (by simp)
  clear r4 hr
  go_wp2_with fail
  go_ret
  exact ⟨rfl, hst, hg⟩
set_option maxHeartbeats 1000000 in
theorem rlst_any (g : Nat) (xs : List Int) (w : World) (h : RdSt w g xs) (hb : IsBytes xs) : Calls Try.prog 69 #[.pointer (some ⟨g, 0, none⟩)] w (RdEnd (fun w' v ys => OwnR intE INTT w' w.heap.size v ys) (rdLst xs) w g) := by
  have hgl := rdSt_lt h
  cases xs with
  | nil =>
    go_enter Try.func69, Try.ntmps69
    go_wp2_with fail
    refine (num_no g _ h).mono ?_
    rintro e w1 ⟨rfl, rfl⟩
    go_wp2_with fail
    exact ⟨rfl, rdEnd_none' rfl ⟨rfl, gb_refl _ _⟩⟩
  | cons x r =>
    have hx := hb x (List.mem_cons_self ..)
    have hbr : IsBytes r := fun y hy => hb y (List.mem_cons_of_mem _ hy)
    obtain ⟨n, rfl⟩ : ∃ n : Nat, x = n := ⟨x.toNat, by omega⟩
    have hn : (n : Int) < 256 := hx.2
    have HR : Hid (rdLst ((n : Int) :: r) = if n ≤ r.length then some (r.take n, r.drop n) else none) := by show _ = _; unfold rdLst; simp
    have HB := Lib.hid hbr
    clear hb hbr
    go_enter Try.func69, Try.ntmps69
    go_wp2_with fail
    refine (num_ok g n r _ h hx).mono ?_
    rintro e w1 ⟨rfl, hst1, hg1⟩
    have HST := Lib.hid hst1
    have HG1 := Lib.hid hg1
    clear hst1 hg1 h hx
    go_wp2_with fail
    go_loopw [3, 6] (fun v i wr => ∃ k : Nat, k ≤ n ∧ i = .int .i64 k ∧ Hid (k ≤ r.length) ∧ Hid (OwnR intE INTT wr w.heap.size v (r.take k)) ∧ Hid (RdSt wr g (r.drop k)) ∧ Hid (w.grownBy wr (some g))) (fun _ i _ => n - (intOf i).toNat)
    case atStart => exact ⟨0, Nat.zero_le _, rfl, Nat.zero_le _, ownR_nil _ _, HST.out, HG1.out⟩
    case round =>
      obtain ⟨k, hk, rfl, hkr, ho, hs, hg⟩ := hrel
      have k0 : (0 : Int) ≤ k := by omega
      by_cases hlt : k < n
      · have k1 : (k : Int) < n := by omega
        rcases Nat.lt_or_ge k r.length with q | q
        · have hd : r.drop k = r[k] :: r.drop (k + 1) := List.drop_eq_getElem_cons q
          have hxk := HB.out r[k] (List.getElem_mem q)
          have HT := Lib.hid (List.take_succ_eq_append_getElem q)
          have hs2 := hs.out
          rw [hd] at hs2
          have HQ := Lib.hid q
          clear hd
          generalize r[k] = y at *
          go_wp2_with fail
          refine (num_ok g y _ _ hs2 hxk).mono ?_
          rintro e w2 ⟨rfl, hst2, hg2⟩
          have ho2 := ownR_kept ho.out hg2 (by
            cases hv : u3.ownBlock with
            | none => exact Or.inl rfl
            | some j => exact Or.inr (by intro e; injection e with e; have := (ownR_lt ho.out j hv).1; omega))
          have hgg := gb_trans hg.out hg2
          have hsz := hgg.size
          clear hs2 hxk hg2
          have HLE : Hid ((r.take k).length ≤ 256) := by show _ ≤ _; rw [List.length_take]; omega
          have HRN := Lib.hid (show ReadR intE (w2.alloc (.cells #[.int .i64 y] INTT)) (.slice (some ⟨w2.heap.size, 0, none⟩) 1 1) [y] from readR_new (c := intE) w2 INTT y)
          have HOA := Lib.hid (ownR_alloc ho2 (.cells #[.int .i64 y] INTT))
          have HSA := Lib.hid (rdSt_alloc hst2 (.cells #[.int .i64 y] INTT))
          have HGA := Lib.hid (gb_alloc hgg (.cells #[.int .i64 y] INTT))
          go_wp2_with (at_builtin; (refine appendR rowInt rfl _ _ rfl w.heap.size _ _ rfl HOA.out _ [y] rfl HRN.out ?c1 ?c2 ?c3 ?_); (case c1 => (have := HLE.out; rw [List.length_singleton]; omega)); (case c2 => (have := HLE.out; rw [List.length_singleton]; unfold maxLen; omega)); (case c3 => (simp only [World.size_alloc]; omega)); intro v3 w3 own3 hg3; have hst3 := rdSt_grown HSA.out hg3 (fun j e => by have := (ownR_lt HOA.out j e).1; omega); have hgg3 := gb_newer HGA.out hg3 (fun j e => (ownR_lt HOA.out j e).1); clear hg3)
          have HO3 := Lib.hid own3
          have HS3 := Lib.hid hst3
          have HG3 := Lib.hid hgg3
          clear own3 hst3 hgg3 hgg ho2 hst2
          go_roundw
          case rel => exact ⟨k + 1, by omega, by first | rfl | trivial | go_num, HQ.out, by have e := HO3.out; rw [← HT.out] at e; exact e, HS3.out, HG3.out⟩
          case measure => simp [intOf]; omega
        · have e : k = r.length := by have := hkr.out; omega
          have hd : r.drop k = [] := List.drop_of_length_le (by omega)
          have hs2 := hs.out
          rw [hd] at hs2
          have HN : Hid (rdLst ((n : Int) :: r) = none) := by show _ = _; rw [HR.out, if_neg (by omega)]
          clear hd e
          go_wp2_with fail
          refine (num_no g _ hs2).mono ?_
          rintro e w2 ⟨rfl, rfl⟩
          go_wp2_with fail
          exact ⟨rfl, rdEnd_none' HN.out ⟨rfl, hg.out⟩⟩
      · have e : k = n := by omega
        subst e
        have HN : Hid (rdLst ((k : Int) :: r) = some (r.take k, r.drop k)) := by show _ = _; rw [HR.out, if_pos hkr.out]
        go_wp2_with fail
        go_ret
        exact rdEnd_some' HN.out ⟨_, rfl, ho.out, hs.out, hg.out⟩
end Go.Proofs.Ytdhkemnebppkhaa
