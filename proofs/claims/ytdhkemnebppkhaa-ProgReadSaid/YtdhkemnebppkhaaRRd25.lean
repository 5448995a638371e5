/- Layer 25: the document's numbers at a place. Conditions: the bytes read as such, and are bytes. -/
import Derived.Test.YtdhkemnebppkhaaRdP25
import Derived.Test.YtdhkemnebppkhaaPlain25
namespace Go.Proofs.Ytdhkemnebppkhaa
open Go.RowKit
set_option linter.unusedVariables false
set_option linter.unusedSimpArgs false
theorem qnum_none (u : Value) (xs : List Int) (t : Int) (w : World) (h : ReadB w u xs) (ht : t < 0 ∨ (xs.length : Int) ≤ t) : Calls Try.prog 58 #[u, .int .i64 t] w fun e w' => e = .returned (.tuple #[.int .i64 0, .bool false]) ∧ w = w' := by
  obtain ⟨a, cap, rfl⟩ := readB_len h
  clear h
  by_cases h0 : t < 0
  · clear ht
    go_enter Try.func58, Try.ntmps58
    go_wp2_with fail
    go_ret2
    exact ⟨rfl, rfl⟩
  · have h1 : (xs.length : Int) ≤ t := by omega
    clear ht
    go_enter Try.func58, Try.ntmps58
    go_wp2_with fail
    go_ret2
    exact ⟨rfl, rfl⟩
theorem qnum_some (u : Value) (xs : List Int) (k : Nat) (x : Int) (w : World) (h : ReadB w u xs) (hk : k < xs.length) (hx : xs.getD k 0 = x) (hb : 0 ≤ x ∧ x < 256) : Calls Try.prog 58 #[u, .int .i64 k] w fun e w' => e = .returned (.tuple #[.int .i64 x, .bool true]) ∧ w = w' := by
  obtain ⟨b, o, cap, rfl, r1, r2, r3, r4⟩ := readB_pos h (by omega)
  have c0 := r4 k hk
  rw [hx] at c0
  have HX := Lib.hid hx
  obtain ⟨x0, x1⟩ := hb
  have k1 : ¬ (xs.length : Int) ≤ k := by omega
  have k2 : (k : Int) < xs.length := by omega
  have k0 : (0 : Int) ≤ k := by omega
  have hcm := cap_le r2
  clear h r4 hx
  go_enter Try.func58, Try.ntmps58
  go_wp2_with fail
  go_ret2
  exact ⟨rfl, rfl⟩
/-- Whatever it is. -/
theorem qnum_any (u : Value) (xs : List Int) (t : Int) (w : World) (h : ReadB w u xs) (hb : IsBytes xs) : Calls Try.prog 58 #[u, .int .i64 t] w fun e w' => ∃ (v : Int) (b : Bool), e = .returned (.tuple #[.int .i64 v, .bool b]) ∧ w = w' := by
  by_cases ht : t < 0 ∨ (xs.length : Int) ≤ t
  · exact (qnum_none u xs t w h ht).mono fun e w' ⟨h1, h2⟩ => ⟨_, _, h1, h2⟩
  · obtain ⟨k, rfl⟩ : ∃ k : Nat, t = k := ⟨t.toNat, by omega⟩
    have hk : k < xs.length := by omega
    have hx := hb (xs.getD k 0) (by rw [List.getD_eq_getElem?_getD, List.getElem?_eq_getElem hk]; exact List.getElem_mem hk)
    exact (qnum_some u xs k _ w h hk rfl hx).mono fun e w' ⟨h1, h2⟩ => ⟨_, _, h1, h2⟩
def NumsEnd (n : Nat) (R : Option (List Int × List Int)) (w : World) (e : Ending) (w' : World) : Prop := match R with
  | none => e = .returned (.tuple #[.slice none 0 0, .int .i64 (-1)]) ∧ Below w.heap.size w w'
  | some (l, r) => ∃ v, e = .returned (.tuple #[v, .int .i64 ((n : Int) - r.length)]) ∧ OwnR intE INTT w' w.heap.size v l ∧ Below w.heap.size w w'
theorem numsEnd_none {n : Nat} {R : Option (List Int × List Int)} {w : World} {e : Ending} {w' : World} (h : NumsEnd n R w e w') (hR : R = none) : e = .returned (.tuple #[.slice none 0 0, .int .i64 (-1)]) ∧ Below w.heap.size w w' := by subst hR; exact h
theorem numsEnd_some {n : Nat} {R : Option (List Int × List Int)} {w : World} {e : Ending} {w' : World} {l r : List Int} (h : NumsEnd n R w e w') (hR : R = some (l, r)) : ∃ v, e = .returned (.tuple #[v, .int .i64 ((n : Int) - r.length)]) ∧ OwnR intE INTT w' w.heap.size v l ∧ Below w.heap.size w w' := by subst hR; exact h
theorem numsEnd_none' {n : Nat} {R : Option (List Int × List Int)} {w : World} {e : Ending} {w' : World} (hR : R = none) (h : e = .returned (.tuple #[.slice none 0 0, .int .i64 (-1)]) ∧ Below w.heap.size w w') : NumsEnd n R w e w' := by subst hR; exact h
theorem numsEnd_some' {n : Nat} {R : Option (List Int × List Int)} {w : World} {e : Ending} {w' : World} {l r : List Int} (hR : R = some (l, r)) (h : ∃ v, e = .returned (.tuple #[v, .int .i64 ((n : Int) - r.length)]) ∧ OwnR intE INTT w' w.heap.size v l ∧ Below w.heap.size w w') : NumsEnd n R w e w' := by subst hR; exact h
theorem qnums_neg (u : Value) (xs : List Int) (t : Int) (w : World) (h : ReadB w u xs) (ht : t < 0) : Calls Try.prog 57 #[u, .int .i64 t] w fun e w' => e = .returned (.tuple #[.slice none 0 0, .int .i64 (-1)]) ∧ Below w.heap.size w w' := by
  have H := Lib.hid h
  clear h
  go_enter Try.func57, Try.ntmps57
  go_wp2_with fail
  refine (qnum_none u xs t _ H.out (Or.inl ht)).mono ?_
  rintro e w1 ⟨rfl, rfl⟩
  go_wp2_with fail
  go_ret2
  exact ⟨rfl, Below.refl _ _⟩
set_option maxRecDepth 100000 in
set_option maxHeartbeats 1000000 in
theorem qnums_any (u : Value) (xs : List Int) (k : Nat) (w : World) (h : ReadB w u xs) (hb : IsBytes xs) (hk : k ≤ xs.length) (hl : xs.length ≤ 274877906944) : Calls Try.prog 57 #[u, .int .i64 k] w (NumsEnd xs.length (rdLst (xs.drop k)) w) := by
  have H := Lib.hid h
  have HL := Lib.hid hl
  have HB := Lib.hid hb
  obtain ⟨a, cap, rfl⟩ := readB_len h
  have k0 : (0 : Int) ≤ k := by omega
  have hlm : (xs.length : Int) ≤ 9223372036854775807 := by omega
  have hkm : (k : Int) ≤ xs.length := by omega
  clear h hl hb
  rcases Nat.lt_or_ge k xs.length with q | q
  rotate_left
  · have hd : xs.drop k = [] := List.drop_of_length_le q
    have HN : Hid (rdLst (xs.drop k) = none) := by show _ = _; rw [hd]; rfl
    clear hd
    go_enter Try.func57, Try.ntmps57
    go_wp2_with fail
    refine (qnum_none _ xs k _ H.out (Or.inr (by omega))).mono ?_
    rintro e w1 ⟨rfl, rfl⟩
    go_wp2_with fail
    go_ret2
    exact numsEnd_none' HN.out ⟨rfl, Below.refl _ _⟩
  · have hd : xs.drop k = xs[k] :: xs.drop (k + 1) := List.drop_eq_getElem_cons q
    have hxk := HB.out xs[k] (List.getElem_mem q)
    have hget : xs.getD k 0 = xs[k] := by rw [List.getD_eq_getElem?_getD, List.getElem?_eq_getElem q]; rfl
    have HD := Lib.hid hd
    have HG := Lib.hid hget
    clear hd hget
    generalize xs[k] = x at *
    obtain ⟨n, rfl⟩ : ∃ n : Nat, x = n := ⟨x.toNat, by omega⟩
    have HR : Hid (rdLst (xs.drop k) = if n ≤ xs.length - (k + 1) then some ((xs.drop (k + 1)).take n, (xs.drop (k + 1)).drop n) else none) := by
      show _ = _
      rw [HD.out]
      unfold rdLst
      simp only [Int.toNat_natCast, List.length_drop]
    have HXK := Lib.hid hxk
    have hn : (n : Int) < 256 := hxk.2
    clear hxk
    by_cases hf : n ≤ xs.length - (k + 1)
    rotate_left
    · have HN : Hid (rdLst (xs.drop k) = none) := by show _ = _; rw [HR.out, if_neg hf]
      have hf' : (xs.length : Int) - k - 1 < n := by omega
      go_enter Try.func57, Try.ntmps57
      go_wp2_with fail
      refine (qnum_some _ xs k n _ H.out q HG.out HXK.out).mono ?_
      rintro e w1 ⟨rfl, rfl⟩
      go_wp2_with fail
      go_ret2
      exact numsEnd_none' HN.out ⟨rfl, Below.refl _ _⟩
    · have HN : Hid (rdLst (xs.drop k) = some ((xs.drop (k + 1)).take n, (xs.drop (k + 1)).drop n)) := by show _ = _; rw [HR.out, if_pos hf]
      have hf' : ¬ (xs.length : Int) - k - 1 < n := by omega
      obtain ⟨b, o, cap', e1, r1, r2, r3, r4⟩ := readB_pos H.out (by omega)
      cases e1
      have hcm := cap_le r2
      have R4 := Lib.hid r4
      clear r4
      go_enter Try.func57, Try.ntmps57
      go_wp2_with fail
      refine (qnum_some _ xs k n _ H.out q HG.out HXK.out).mono ?_
      rintro e w1 ⟨rfl, rfl⟩
      go_wp2_with fail
      go_loopw [8, 9] (fun v i wr => ∃ j : Nat, j ≤ n ∧ i = .int .i64 j ∧ Hid (OwnR intE INTT wr w.heap.size v ((xs.drop (k + 1)).take j)) ∧ Hid (Below w.heap.size w wr)) (fun _ i _ => n - (intOf i).toNat)
      case atStart => exact ⟨0, Nat.zero_le _, rfl, ownR_nil _ _, Below.refl _ _⟩
      case round =>
        obtain ⟨j, hj, rfl, ho, hbw⟩ := hrel
        have j0 : (0 : Int) ≤ j := by omega
        by_cases hlt : j < n
        · have j1 : (j : Int) < n := by omega
          have hidx : k + 1 + j < xs.length := by omega
          have hc : wr.cell? ⟨b, o + (k + 1 + j), none⟩ = some (.int .u8 (xs.getD (k + 1 + j) 0)) := (hbw.out.cell (p := ⟨b, o + (k + 1 + j), none⟩) r3).trans (R4.out _ hidx)
          have hge : xs.getD (k + 1 + j) 0 = xs[k + 1 + j] := by rw [List.getD_eq_getElem?_getD, List.getElem?_eq_getElem hidx]; rfl
          rw [hge] at hc
          have hby := HB.out xs[k + 1 + j] (List.getElem_mem hidx)
          have HT : Hid ((xs.drop (k + 1)).take (j + 1) = (xs.drop (k + 1)).take j ++ [xs[k + 1 + j]]) := by
            show _ = _
            rw [List.take_succ_eq_append_getElem (by rw [List.length_drop]; omega), List.getElem_drop]
          clear hge
          generalize xs[k + 1 + j] = y at *
          obtain ⟨y0, y1⟩ := hby
          have hz := hbw.out.size
          have hidx' : (k : Int) + 1 + j < xs.length := by omega
          have hidx0 : (0 : Int) ≤ (k : Int) + 1 + j := by omega
          have hidxN : ((k : Int) + 1 + j).toNat = k + 1 + j := by omega
          have HLE : Hid (((xs.drop (k + 1)).take j).length ≤ 256) := by show _ ≤ _; rw [List.length_take]; omega
          have HRN := Lib.hid (show ReadR intE (wr.alloc (.cells #[.int .i64 y] INTT)) (.slice (some ⟨wr.heap.size, 0, none⟩) 1 1) [y] from readR_new (c := intE) wr INTT y)
          have HOA := Lib.hid (ownR_alloc ho.out (.cells #[.int .i64 y] INTT))
          have HBA := Lib.hid (b_alloc hbw.out (.cells #[.int .i64 y] INTT))
          go_wp2_with (at_builtin; (refine appendR rowInt rfl _ _ rfl w.heap.size _ _ rfl HOA.out _ [y] rfl HRN.out ?c1 ?c2 ?c3 ?_); (case c1 => (have := HLE.out; rw [List.length_singleton]; omega)); (case c2 => (have := HLE.out; rw [List.length_singleton]; unfold maxLen; omega)); (case c3 => (simp only [World.size_alloc]; omega)); intro v3 w3 own3 hg3; have hb3 := b_ownR HBA.out HOA.out hg3; clear hg3)
          have HO3 := Lib.hid own3
          have HB3 := Lib.hid hb3
          clear own3 hb3
          go_roundw
          case rel => exact ⟨j + 1, by omega, by first | rfl | trivial | go_num, by have e := HO3.out; rw [← HT.out] at e; exact e, HB3.out⟩
          case measure => simp [intOf]; omega
        · have e : j = n := by omega
          subst e
          have HE : Hid ((xs.length : Int) - (((xs.drop (k + 1)).drop j).length : Int) = (k : Int) + 1 + j) := by
            show _ = _
            rw [List.length_drop, List.length_drop]; omega
          go_wp2_with fail
          go_ret2
          exact numsEnd_some' HN.out ⟨_, (by rw [HE.out]; rfl), ho.out, hbw.out⟩
end Go.Proofs.Ytdhkemnebppkhaa
