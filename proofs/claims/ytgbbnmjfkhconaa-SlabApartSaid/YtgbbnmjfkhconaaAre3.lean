/- Layer 3: bytes as a string; what makes and copies arenas and rows of bytes, the program's and the document's. Conditions: at most 65536 bytes; bytes are bytes. -/
import Derived.Test.YtgbbnmjfkhconaaAre2
import Derived.Laws.IdiomStrings
import Derived.Laws.BytesArg
namespace Go.Proofs.Ytgbbnmjfkhconaa
open Go.RowKit
set_option linter.unusedVariables false
set_option linter.unusedSimpArgs false
attribute [local go_sem] over_cell over_frozen
/-- Bytes as a string. -/
def bstr (xs : List Int) : ByteArray := ⟨(xs.map (fun x => UInt8.ofNat x.toNat)).toArray⟩
theorem conv_bstr {w : World} {a : Addr} {n cap : Nat} {xs : List Int} (hn : xs.length = n) (hb : IsBytes xs) (hc : ∀ j, j < n → w.cell? (a.add j) = some (.int .u8 (xs.getD j 0))) :
    (convert 31 9 (.slice (some a) n cap)).run Try.prog w = .ok (.string (bstr xs)) w := by
  have h := run_convert_bytes_back (P := Try.prog) w 31 9 5 a cap (xs.map (fun x => UInt8.ofNat x.toNat)) under_byts Try.underlying5 Try.underlying9 (fun j hj => by
    rw [List.length_map] at hj
    rw [hc j (by omega)]
    have e := isBytes_at hb j hj
    rw [List.getElem_map]
    have e2 : xs.getD j 0 = xs[j] := by rw [List.getD_eq_getElem?_getD, List.getElem?_eq_getElem hj]; rfl
    rw [e2] at e ⊢
    have e3 : ((UInt8.ofNat xs[j].toNat).toNat : Int) = xs[j] := by
      rw [UInt8.toNat_ofNat']; omega
    rw [e3])
  rw [List.length_map, hn] at h
  exact h
theorem bstr_back {xs : List Int} (h : IsBytes xs) : (bstr xs).toList.map (fun b => (b.toNat : Int)) = xs := by
  unfold bstr
  rw [ByteArray.toList_mk, List.map_map]
  conv => rhs; rw [← List.map_id xs]
  apply List.map_congr_left
  intro x hx
  have := h x hx
  simp only [Function.comp, id]
  rw [UInt8.toNat_ofNat']; omega
theorem bstr_inj {xs ys : List Int} (hx : IsBytes xs) (hy : IsBytes ys) (h : (bstr xs).toList = (bstr ys).toList) : xs = ys := by
  rw [← bstr_back hx, ← bstr_back hy, h]
theorem conv_read {w : World} {a : Option Addr} {n cap : Nat} {xs : List Int} (h : ReadB w (.slice a n cap) xs) (hb : IsBytes xs) : (convert 31 9 (.slice a n cap)).run Try.prog w = .ok (.string (bstr xs)) w := by
  obtain ⟨a', cap', e, h1, h2, h3, h4⟩ := h
  cases e
  rcases Nat.eq_zero_or_pos xs.length with q | q
  · have e : xs = [] := List.eq_nil_of_length_eq_zero q
    subst e
    cases a with
    | none => 
      have := h3 rfl
      subst this
      exact run_convert_bytes_nil (P := Try.prog) w 31 5 under_byts Try.underlying5 _ _ _ Try.underlying9
    | some ad => exact conv_bstr rfl hb (fun j hj => by simp at hj)
  · obtain ⟨b, o, rfl, h5, h6⟩ := h4 q
    exact conv_bstr rfl hb (fun j hj => by rw [Addr.add_lit]; exact h6 j hj)
/-- A row of bytes of the law's or the document's, known whole. -/
structure RowAt (w : World) (g cap : Nat) (W : List Int) : Prop where
  rw : Blk w g (byts W)
  le : W.length ≤ cap
  cp : cap ≤ maxLen
  by_ : IsBytes W
  mx : W.length ≤ 65536
def rowV (g : Nat) (W : List Int) (cap : Nat) : Value := .slice (some ⟨g, 0, none⟩) W.length cap
theorem row_below {w w' : World} {g cap : Nat} {W : List Int} (h : RowAt w g cap W) (hb : Below w.heap.size w w') : RowAt w' g cap W := ⟨blk_below h.rw hb, h.le, h.cp, h.by_, h.mx⟩
theorem row_grown {w w' : World} {g cap : Nat} {W : List Int} {r : Option Nat} (h : RowAt w g cap W) (hg : w.grownBy w' r) (hn : some g ≠ r) : RowAt w' g cap W := ⟨blk_grown h.rw hg hn, h.le, h.cp, h.by_, h.mx⟩
theorem row_read {w : World} {g cap : Nat} {W : List Int} (h : RowAt w g cap W) : ReadB w (rowV g W cap) W := readB_whole h.rw h.le h.cp
def NewRowB (w : World) (W : List Int) (e : Ending) (w' : World) : Prop := ∃ g cap, e = .returned (rowV g W cap) ∧ RowAt w' g cap W ∧ w.heap.size ≤ g ∧ Below w.heap.size w w'
theorem ownB_R {w : World} {B : Nat} {v : Value} {xs : List Int} (h : OwnB w B v xs) : OwnR byE 5 w B v xs := by
  unfold OwnR; rw [row_byts]; exact h
/-- 'append([]byte{}, src...)', whatever is behind it. -/
theorem bclone_any {w : World} {a : Addr} {cap : Nat} {xs : List Int} (h : ReadB w (.slice (some a) xs.length cap) xs) (hl : xs.length ≤ 65536) (hby : IsBytes xs) : Calls Try.prog 68 #[.slice (some a) xs.length cap] w (NewRowB w xs) := by
  have HL := Lib.hid hl
  have HY := Lib.hid hby
  have t0 := fun (w : World) => Lib.run_eql_slice_nil (P := Try.prog) w 31 5 (some a) xs.length cap 0 0 Try.underlying31
  simp only [Option.isNone_some] at t0
  have hr := readB_R h
  clear hby h
  rcases Nat.eq_zero_or_pos xs.length with hz | hz
  · have e : xs = [] := List.eq_nil_of_length_eq_zero hz
    subst e
    simp only [List.length_nil] at t0
    clear hr hz hl
    go_enter Try.func68, Try.ntmps68
    go_wp2_with (at_builtin; refine appendR0 (c := byE) rowByte rfl _ _ rfl w.heap.size a cap rfl rfl ?_)
    go_ret
    exact ⟨w.heap.size, 0, rfl, ⟨blk_new w #[] _, Nat.le_refl _, Nat.zero_le _, HY.out, by simp⟩, Nat.le_refl _, b_alloc (Below.refl _ _) _⟩
  · go_enter Try.func68, Try.ntmps68
    go_wp2_with (at_builtin; refine appendR (c := byE) rowByte rfl _ _ rfl w.heap.size _ [] rfl (own_emptyR (Nat.le_refl _)) _ xs rfl (readR_below hr (b_alloc (Below.refl _ _) _)) ?c1 ?c2 ?c3 ?_; (case c1 => (simp; omega)); (case c2 => (unfold maxLen; simp; omega)); (case c3 => (simp)); intro v1 w1 hown1 hg1)
    rw [List.nil_append] at hown1
    obtain ⟨g, cap1, rfl, f1, f2, f3, f4, f5⟩ := ownR_form hown1 hz
    rw [row_byts] at f5
    go_ret
    exact ⟨g, cap1, rfl, ⟨f5, f3, f4, HY.out, HL.out⟩, f1, b_ownR (b_alloc (Below.refl _ _) _) (own_emptyR (c := byE) (E := 5) (Nat.le_refl _)) hg1⟩
theorem acopy_nil (w : World) : Calls Try.prog 35 #[.pointer none] w fun e w' => e = .returned (.pointer none) ∧ w = w' := by
  go_enter Try.func35, Try.ntmps35
  go_wp2_with fail
  go_ret
  exact ⟨rfl, rfl⟩
theorem acopy_any {w : World} {b g cap : Nat} {L : List Int} (h : AreAt w b g cap L) : Calls Try.prog 35 #[tp b] w (NewAre w L) := by
  have hsc := Lib.hid (bclone_any (readB_whole h.rw h.le h.cp) h.mx h.by_)
  obtain ⟨c0, hf⟩ := blk1 h.hd
  clear h
  unfold tp
  go_enter Try.func35, Try.ntmps35
  go_wp2_with fail
  refine hsc.out.mono ?_
  rintro e w1 ⟨g1, cap1, rfl, R1, f1, hb1⟩
  have hB := b_alloc hb1 (.cells #[.slice (some ⟨g1, 0, none⟩) L.length cap1] 114)
  have HQ : Hid (Blk (w1.alloc (.cells #[.slice (some ⟨g1, 0, none⟩) L.length cap1] 114)) w1.heap.size [.slice (some ⟨g1, 0, none⟩) L.length cap1]) := blk_new _ _ _
  have hs := hb1.size
  have hg1 := R1.rw.1
  have HR := Lib.hid R1
  clear R1
  unfold rowV
  go_wp2_with fail
  go_ret
  exact ⟨w1.heap.size, g1, cap1, rfl, ⟨HQ.out, blk_alloc HR.out.rw _, by omega, HR.out.le, HR.out.cp, HR.out.by_, HR.out.mx⟩, hs, f1, hB⟩
theorem aload_any {w : World} {b g cap : Nat} {L : List Int} (h : AreAt w b g cap L) (a n : Int) : Calls Try.prog 21 #[tp b, .int .i64 a, .int .i64 n] w fun e w' => ∃ v, e = .returned (.tuple #[v, .int .i64 (inE L.length a n)]) ∧ ReadB w' v (loadL L a n) ∧ Below w.heap.size w w' ∧ (inE L.length a n = 0 → ∃ g' cap', v = rowV g' (loadL L a n) cap' ∧ RowAt w' g' cap' (loadL L a n) ∧ w.heap.size ≤ g') := by
  have hin := Lib.hid (ain_any h a n)
  obtain ⟨h0, hf⟩ := blk1 h.hd
  have H := Lib.hid h
  unfold tp at *
  have hle := h.le
  have hcp := h.cp
  have hmx := h.mx
  clear h
  unfold loadL
  rcases inE_cases L.length a n with ⟨h1, _⟩ | ⟨h1, k, m, rfl, rfl, hk⟩
  · rw [h1] at hin ⊢
    rw [if_neg (by decide)]
    go_enter Try.func21, Try.ntmps21
    go_wp2_with fail
    refine hin.out.mono ?_
    rintro e w1 ⟨rfl, rfl⟩
    go_wp2_with fail
    go_ret2
    exact ⟨_, rfl, readB_nil _, Below.refl _ _, fun e => by cases e⟩
  · rw [h1] at hin ⊢
    rw [if_pos rfl, Int.toNat_natCast, Int.toNat_natCast]
    have hcap := cap_le hcp
    have k0 : (0 : Int) ≤ k := by omega
    have m0 : (0 : Int) ≤ m := by omega
    have k1 : (k : Int) + m ≤ L.length := by omega
    have k2 : (k : Int) + m ≤ cap := by omega
    have k3 : (k : Int) + m ≤ 65536 := by omega
    obtain ⟨X, hX⟩ : ∃ X, X = (L.drop k).take m := ⟨_, rfl⟩
    have HXL : Hid (X.length = m) := by show X.length = m; rw [hX]; simp; omega
    have HXB : Hid (IsBytes X) := by show IsBytes X; rw [hX]; exact isBytes_take (isBytes_drop H.out.by_ k) m
    have HRD : Hid (∀ (p : Option Addr) (c : Nat), (0 < m → p = some ⟨g, k, none⟩) → c = cap - k → p ≠ none → ReadB w (.slice p m c) X) := Lib.hid (fun p c h1 h2 h3 => by rw [hX]; exact readB_sub H.out.rw H.out.le H.out.cp hk h1 h2 h3)
    rw [← hX]
    have HM65 : Hid (m ≤ 65536) := by show m ≤ _; omega
    clear hX
    by_cases hck : cap = k
    · subst hck
      have hm0 : m = 0 := by omega
      subst hm0
      have hcl := Lib.hid (bclone_any (w := w) (a := ⟨g, 0, none⟩) (cap := 0) (xs := X) (by rw [HXL.out]; exact HRD.out _ _ (fun h => absurd h (by omega)) (by omega) (by intro e; cases e)) (by rw [HXL.out]; exact HM65.out) HXB.out)
      rw [HXL.out] at hcl
      go_enter Try.func21, Try.ntmps21
      go_wp2_with fail
      refine hin.out.mono ?_
      rintro e w1 ⟨rfl, rfl⟩
      go_wp2_with fail
      refine hcl.out.mono ?_
      rintro e w1 ⟨g1, cap1, rfl, R1, f1, hb1⟩
      have HR := Lib.hid R1
      have HRR := Lib.hid (row_read R1)
      have HRV : Hid (rowV g1 X cap1 = .slice (some ⟨g1, 0, none⟩) 0 cap1) := by show rowV g1 X cap1 = _; unfold rowV; rw [HXL.out]
      rw [HRV.out] at HRR ⊢
      clear R1
      go_wp2_with fail
      go_ret2
      exact ⟨_, rfl, HRR.out, hb1, fun _ => ⟨g1, cap1, by rw [HRV.out]; rfl, HR.out, f1⟩⟩
    · have hcl := Lib.hid (bclone_any (w := w) (a := ⟨g, k, none⟩) (cap := cap - k) (xs := X) (by rw [HXL.out]; exact HRD.out _ _ (fun h => rfl) rfl (by intro e; cases e)) (by rw [HXL.out]; exact HM65.out) HXB.out)
      rw [HXL.out] at hcl
      go_enter Try.func21, Try.ntmps21
      go_wp2_with fail
      refine hin.out.mono ?_
      rintro e w1 ⟨rfl, rfl⟩
      go_wp2_with fail
      refine hcl.out.mono ?_
      rintro e w1 ⟨g1, cap1, rfl, R1, f1, hb1⟩
      have HR := Lib.hid R1
      have HRR := Lib.hid (row_read R1)
      have HRV : Hid (rowV g1 X cap1 = .slice (some ⟨g1, 0, none⟩) m cap1) := by show rowV g1 X cap1 = _; unfold rowV; rw [HXL.out]
      rw [HRV.out] at HRR ⊢
      clear R1
      go_wp2_with fail
      go_ret2
      exact ⟨_, rfl, HRR.out, hb1, fun _ => ⟨g1, cap1, by rw [HRV.out]; rfl, HR.out, f1⟩⟩
theorem aload_nil (a n : Int) (w : World) : Calls Try.prog 21 #[.pointer none, .int .i64 a, .int .i64 n] w fun e w' => e = .returned (.tuple #[.slice none 0 0, .int .i64 2]) ∧ w = w' := by
  go_enter Try.func21, Try.ntmps21
  go_wp2_with fail
  refine (ain_nil _ _ _).mono ?_
  rintro e w1 ⟨rfl, rfl⟩
  go_wp2_with fail
  go_ret2
  exact ⟨rfl, rfl⟩
def pagesN (n : Int) : Nat := if n < 0 then 0 else if 256 < n then 256 else n.toNat
theorem pagesN_le (n : Int) : pagesN n ≤ 256 := by unfold pagesN; (repeat' split) <;> omega
theorem mk_byts (n : Nat) (hn : n ≤ 65536) (z : Int) (hz : z = n) : ∀ w : World, (Instr.makeSlice 31 (.int .i64 z) (.int .i64 z)).run Try.prog w = .ok (.slice (some ⟨w.heap.size, 0, none⟩) n n) (w.alloc (.cells (byts (List.replicate n 0)).toArray 5)) := fun w => by
  subst hz
  have h := run_makeR (c := byE) rowByte .i64 .i64 n (by omega) (by omega) w
  have e : madeCells (Value.int .u8 0).cells (n * byE.size) = (byts (List.replicate n 0)).toArray := by
    rw [← madeCells_byts n, show n * byE.size = n from Nat.mul_one n]; rfl
  simp only [e] at h
  exact h
theorem blk_mk (w : World) (n : Nat) : Blk (w.alloc (.cells (byts (List.replicate n 0)).toArray 5)) w.heap.size (byts (List.replicate n 0)) := by
  have := blk_new w (byts (List.replicate n 0)).toArray 5
  simpa using this
theorem row_mk (w : World) (n : Nat) (hn : n ≤ 65536) : RowAt (w.alloc (.cells (byts (List.replicate n 0)).toArray 5)) w.heap.size n (List.replicate n 0) :=
  ⟨blk_mk w n, by simp, by unfold maxLen; omega, isBytes_rep n (by omega), by simpa using hn⟩
theorem anew_any (n : Int) (w : World) : Calls Try.prog 19 #[.int .i64 n] w (NewAre w (List.replicate (256 * pagesN n) 0)) := by
  have hfin : ∀ m : Nat, m ≤ 65536 → ∀ e, e = Ending.returned (.pointer (some ⟨w.heap.size + 1, 0, none⟩)) → NewAre w (List.replicate m 0) e ((w.alloc (.cells (byts (List.replicate m 0)).toArray 5)).alloc (.cells #[.slice (some ⟨w.heap.size, 0, none⟩) m m] 114)) := by
    intro m hm e he
    have R := row_mk w m hm
    have q := blk_new (w.alloc (.cells (byts (List.replicate m 0)).toArray 5)) #[.slice (some ⟨w.heap.size, 0, none⟩) m m] 114
    refine ⟨w.heap.size + 1, w.heap.size, m, he, ⟨?_, blk_alloc R.rw _, by omega, R.le, R.cp, R.by_, R.mx⟩, by omega, by omega, b_alloc (b_alloc (Below.refl _ _) _) _⟩
    rw [List.length_replicate]
    simpa using q
  rcases (show n < 0 ∨ (0 ≤ n ∧ 256 < n) ∨ ∃ m : Nat, n = m ∧ m ≤ 256 by
    rcases (show n < 0 ∨ (0 ≤ n ∧ 256 < n) ∨ (0 ≤ n ∧ n ≤ 256) by omega) with q | q | q
    · exact Or.inl q
    · exact Or.inr (Or.inl q)
    · exact Or.inr (Or.inr ⟨n.toNat, by omega, by omega⟩)) with q | ⟨q1, q2⟩ | ⟨m, rfl, hm⟩
  · rw [show 256 * pagesN n = 0 by unfold pagesN; rw [if_pos q]]
    have K := mk_byts 0 (by omega) 0 rfl
    have F := Lib.hid (hfin 0 (by omega))
    clear hfin
    go_enter Try.func19, Try.ntmps19
    go_wp2_with fail
    go_ret
    exact F.out _ rfl
  · obtain ⟨N, hN⟩ : ∃ N : Nat, N = 65536 := ⟨_, rfl⟩
    rw [show 256 * pagesN n = N by unfold pagesN; rw [if_neg (by omega), if_pos q2]; omega]
    have K := mk_byts N (by omega) 65536 (by omega)
    have F := Lib.hid (hfin N (by omega))
    clear hfin
    generalize (byts (List.replicate N 0)).toArray = Z at *
    have HN := Lib.hid hN
    clear hN
    go_enter Try.func19, Try.ntmps19
    go_wp2_with fail
    go_ret
    exact F.out _ rfl
  · rw [show 256 * pagesN (m : Int) = 256 * m by unfold pagesN; rw [if_neg (by omega), if_neg (by omega)]; omega]
    have K := mk_byts (256 * m) (by omega) (256 * (m : Int)) (by omega)
    have F := Lib.hid (hfin (256 * m) (by omega))
    have hm1 : (m : Int) ≤ 256 := by omega
    have hm0 : (0 : Int) ≤ m := by omega
    clear hfin
    generalize (byts (List.replicate (256 * m) 0)).toArray = Z at *
    obtain ⟨N, hN⟩ : ∃ N, N = 256 * m := ⟨_, rfl⟩
    rw [← hN] at K F ⊢
    have HN := Lib.hid hN
    clear hN
    go_enter Try.func19, Try.ntmps19
    go_wp2_with fail
    go_ret
    exact F.out _ rfl
end Go.Proofs.Ytgbbnmjfkhconaa
