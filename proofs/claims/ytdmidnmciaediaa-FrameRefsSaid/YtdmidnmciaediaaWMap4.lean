/- Layer 27: the contract of the law's ours; a checked program's facts as rows. Conditions: what is asked reads as lists, and is not too great. Layer 28: the contract of the law's facts. Conditions: what is asked reads as lists, and is not greater than a machine can hold. -/
import Derived.Test.YtdmidnmciaediaaWMap3
namespace Go.Proofs.Ytdmidnmciaediaa
section
open Go.RowKit
set_option linter.unusedVariables false
set_option linter.unusedSimpArgs false
attribute [local go_sem] over_cell over_frozen
/-- A row of the program's facts that was laid; the lists stand as they stood. -/
def FacO (w w' : World) (s : Sl) (l : List (Bool × List Int)) : Prop := ∃ F : List (Bool × Sl), ReadR factE w' s.v F ∧ slOk w' FCT s.a s.n ∧ F.length = l.length ∧ ∀ k, (h : k < F.length) → (h' : k < l.length) → F[k].1 = l[k].1 ∧ ReadI w F[k].2.v l[k].2
theorem slOk_call {w w' : World} {E : TypeId} {a : Option Addr} {n : Nat} (h : slOk w E a n) (hb : Below w.heap.size w w') : slOk w' E a n := slOk_keep h (fun k hk => tyB_call hk hb)
theorem facO_below {w0 w w' : World} {s : Sl} {l : List (Bool × List Int)} (h : FacO w0 w s l) (hb : Below w.heap.size w w') : FacO w0 w' s l := by
  obtain ⟨F, h1, h2, h3, h4⟩ := h
  exact ⟨F, readR_below h1 hb, slOk_call h2 hb, h3, h4⟩
theorem facO_grown {w0 w w' : World} {s : Sl} {l : List (Bool × List Int)} {r : Option Nat} (h : FacO w0 w s l) (hg : w.grownBy w' r) (hr : ∀ j, r = some j → ∃ T, tyB w j = some T ∧ T ≠ FCT) : FacO w0 w' s l := by
  obtain ⟨F, h1, h2, h3, h4⟩ := h
  have hne : ∀ k, tyB w k = some FCT → some k ≠ r := fun k hk e => by
    obtain ⟨T, h1, h2⟩ := hr k e.symm
    rw [hk] at h1; injection h1 with h1; exact h2 h1.symm
  refine ⟨F, ?_, slOk_keep h2 (fun k hk => tyB_grown hk hg (hne k hk)), h3, h4⟩
  have h1' : ReadR factE w (.slice s.a s.n s.c) F := h1
  exact readR_apart h1' h2 hg.size (fun j hj => hg.block j (tyB_lt hj) (hne j hj))
theorem facO_L {w w' : World} {s : Sl} {l : List (Bool × List Int)} (h : FacO w w' s l) (hb : Below w.heap.size w w') : FacL w' s l := by
  obtain ⟨F, h1, h2, h3, h4⟩ := h
  exact ⟨F, h1, h3, fun k hk hk' => ⟨(h4 k hk hk').1, readI_below (h4 k hk hk').2 hb⟩⟩
def OurIn (w wr : World) (Fx : FxM) (k : Nat) (LL : List Sl) : Prop := LL.length = k ∧ ∀ q, (h : q < LL.length) → (h' : q < Fx.length) → FacO w wr LL[q] Fx[q]
theorem ourIn_below {w w1 w2 : World} {Fx : FxM} {k : Nat} {LL : List Sl} (h : OurIn w w1 Fx k LL) (hb : Below w1.heap.size w1 w2) : OurIn w w2 Fx k LL := ⟨h.1, fun q hq hq' => facO_below (h.2 q hq hq') hb⟩
theorem ourIn_snoc {w w1 w2 : World} {Fx : FxM} {k : Nat} {LL : List Sl} {s : Sl} {r : Option Nat} (h : OurIn w w1 Fx k LL) (hk : k < Fx.length) (hs : FacO w w1 s Fx[k]) (hg : w1.grownBy w2 r) (hr : ∀ j, r = some j → ∃ T, tyB w1 j = some T ∧ T ≠ FCT) : OurIn w w2 Fx (k + 1) (LL ++ [s]) := by
  obtain ⟨h1, h2⟩ := h
  subst h1
  refine ⟨by simp, fun q hq hq' => ?_⟩
  by_cases e : q < LL.length
  · rw [List.getElem_append_left e]
    exact facO_grown (h2 q e hq') hg hr
  · have e2 : q = LL.length := by simp at hq; omega
    subst e2
    rw [List.getElem_append_right (Nat.le_refl _)]
    simp only [Nat.sub_self, List.getElem_cons_zero]
    exact facO_grown hs hg hr
--BEGIN
--END
/-- The facts of a check. -/
def fxM (M : List (Option (List Int))) : List (Bool × List Int) := M.map (fun o => (o.isSome, o.getD []))
def factsOf (R : Sum (List (List (Option (List Int)))) (Int × Int × Int)) : FxM := match R with
  | .inl Ms => Ms.map fxM
  | .inr _ => []
theorem readR_map {α β : Type} {c : Elt α} {d : Elt β} {f : α → β} {w : World} {v : Value} {L : List α} (hs : c.size = d.size) (hc : ∀ x, d.cells (f x) = c.cells x) (h : ReadR c w v L) : ReadR d w v (L.map f) := by
  rcases Nat.eq_zero_or_pos L.length with q | q
  · have e := List.eq_nil_of_length_eq_zero q
    subst e
    obtain ⟨a, cap, rfl, h1, h2⟩ := readR_len h
    exact ⟨a, cap, rfl, h1, h2, by have := h; unfold ReadR at this; obtain ⟨_, _, e, _, _, h3, _⟩ := this; injection e with e1 e2 e3; subst e1; subst e3; exact h3, fun h => by simp at h⟩
  · obtain ⟨b, o, cap, rfl, h1, h2, h3, h4⟩ := readR_pos h q
    have := readR_mk (c := d) (w := w) (L := L.map f) (b := b) (o := o) (cap := cap) (by simpa using h1) h2 h3 (fun k hk j hj => by
      rw [List.getElem_map, hc, ← hs]
      exact h4 k (by simpa using hk) j (by rw [hs]; exact hj))
    rw [List.length_map] at this
    exact this
def slOf (s : Nat × Nat) : Sl := ⟨some ⟨s.1, 0, none⟩, s.2, s.2⟩
theorem fxM_at {M : List (Option (List Int))} {k : Nat} (h : k < (fxM M).length) : (fxM M)[k] = ((M.getD k none).isSome, (M.getD k none).getD []) := by
  unfold fxM at h ⊢
  rw [List.getElem_map, List.getD_eq_getElem?_getD, List.getElem?_eq_getElem (by simpa using h)]
  rfl
theorem rowD_facL {w : World} {g n : Nat} {F : List (Bool × Sl)} {M : List (Option (List Int))} (h : RowD w g n F M) (hn : n ≤ 200) : FacL w (slOf (g, n)) (fxM M) := by
  have e : n = F.length := h.lf.symm
  refine ⟨F, ?_, by unfold fxM; rw [List.length_map, h.lf, h.lm], fun k hk hk' => ?_⟩
  · show ReadR factE w (.slice (some ⟨g, 0, none⟩) n n) F
    rw [e]
    exact readR_blk h.fr (Nat.le_refl _) (by unfold maxLen; omega)
  · rw [fxM_at hk']
    exact ⟨(h.ok k hk).1, (h.ok k hk).2.1⟩
theorem allD_facR {w : World} {a : Option Addr} {c : Nat} {L : List (Nat × Nat)} {Ms : List (List (Option (List Int)))} (hL : ReadR slE w (.slice a L.length c) L) (hA : AllD w L Ms) (hn : ∀ M ∈ Ms, M.length ≤ 200) : FacR w (.slice a L.length c) (Ms.map fxM) := by
  refine ⟨L.map slOf, readR_map rfl (fun _ => rfl) hL, by simp [hA.1], fun k hk hk' => ?_⟩
  rw [List.getElem_map, List.getElem_map]
  obtain ⟨F, hF⟩ := hA.2 k (by simpa using hk) (by simpa using hk')
  have hkl : k < L.length := by simpa using hk
  have h2 : (L[k]'hkl).2 ≤ 200 := by have := hF.lm; have := hn _ (List.getElem_mem (by simpa using hk' : k < Ms.length)); omega
  exact rowD_facL hF h2
/-- What is known of a check's facts. -/
structure FxOk (P : PrM) (Fx : FxM) : Prop where
  f : Fx.length ≤ 17
  c : ∀ l ∈ Fx, l.length ≤ 100
  k : ∀ i j, (factM Fx i j).2.length ≤ 17592186044415
theorem factM_facts {Ms : List (List (Option (List Int)))} (i j : Nat) : factM (Ms.map fxM) i j = (((Ms.getD i []).getD j none).isSome, ((Ms.getD i []).getD j none).getD []) := by
  unfold factM
  by_cases hi : i < Ms.length
  · have e1 : (Ms.map fxM).getD i [] = fxM (Ms.getD i []) := by
      rw [List.getD_eq_getElem?_getD, List.getD_eq_getElem?_getD, List.getElem?_map, List.getElem?_eq_getElem hi]; rfl
    rw [e1]
    generalize Ms.getD i [] = M
    by_cases hj : j < M.length
    · have hj' : j < (fxM M).length := by unfold fxM; simpa using hj
      rw [getD_at hj', fxM_at]
    · unfold fxM
      rw [List.getD_eq_getElem?_getD, List.getElem?_eq_none (by simpa using hj), List.getD_eq_getElem?_getD, List.getElem?_eq_none (by omega)]
      rfl
  · rw [List.getD_eq_getElem?_getD (l := Ms.map fxM), List.getElem?_eq_none (by simpa using hi), List.getD_eq_getElem?_getD (l := Ms), List.getElem?_eq_none (by omega)]
    rfl
theorem fxOk_check {P : PrM} (hP : SmallP P) : FxOk P (factsOf (checkM P)) := by
  cases h : checkM P with
  | inr x => exact ⟨Nat.zero_le _, (fun l hl => by cases hl), (fun i j => by show (factM [] i j).2.length ≤ 17592186044415; unfold factM; simp)⟩
  | inl Ms =>
    obtain ⟨_, hl, hall⟩ := checkM_all h
    refine ⟨by show (Ms.map fxM).length ≤ 17; rw [List.length_map, hl]; exact hP.f, fun l hl' => ?_, fun i j => ?_⟩
    · obtain ⟨k, hk, rfl⟩ := List.getElem_of_mem hl'
      have hk1 : k < Ms.length := by have := hk; unfold factsOf at this; simpa using this
      have hk2 : k < P.fs.length := by omega
      have e : (factsOf (.inl Ms))[k] = fxM Ms[k] := by unfold factsOf; exact List.getElem_map ..
      rw [e]
      unfold fxM
      rw [List.length_map, (hall k hk2 hk1).len]
      exact (hP.a _ (List.getElem_mem hk2)).c
    · show (factM (Ms.map fxM) i j).2.length ≤ _
      rw [factM_facts]
      show (((Ms.getD i []).getD j none).getD []).length ≤ _
      by_cases hi : i < Ms.length
      · have hk2 : i < P.fs.length := by omega
        have e : Ms.getD i [] = Ms[i] := getD_at hi _
        rw [e]
        cases hm : (Ms[i]).getD j none with
        | none => simp
        | some st =>
          have := (hall i hk2 hi).sm j st hm
          simp only [Option.getD_some]
          omega
      · rw [List.getD_eq_getElem?_getD (l := Ms), List.getElem?_eq_none (by omega)]
        simp
/-- The document's Check, its facts as rows. -/
theorem rcheck_fx (p : PrV) (P : PrM) (w : World) (h : ReadP w p P) (hP : SmallP P) : Calls Try.prog 28 #[aggP p] w fun e w' => ∃ a c x y z, e = .returned (.tuple #[.slice a (factsOf (checkM P)).length c, .agg #[.int .i64 x, .int .i64 y, .int .i64 z]]) ∧ FacR w' (.slice a (factsOf (checkM P)).length c) (factsOf (checkM P)) ∧ ((∃ Ms, checkM P = .inl Ms) → x = 0 ∧ y = 0 ∧ z = 0) ∧ ((∀ Ms, checkM P ≠ .inl Ms) → z ≠ 0) ∧ Below w.heap.size w w' := by
  have hok := fxOk_check hP
  refine (rcheck_any p P w h).mono ?_
  cases hC : checkM P with
  | inr x =>
    rintro e w' ⟨he, hb⟩
    have he : e = .returned (.tuple #[.slice none 0 0, wrongV x.1 x.2.1 x.2.2]) := he
    subst he
    exact ⟨none, 0, x.1, x.2.1, x.2.2, rfl, ⟨[], readR_nil _, rfl, fun k hk => absurd hk (Nat.not_lt_zero _)⟩, (fun ⟨Ms, h⟩ => by cases h), (fun _ => checkM_code hC), hb⟩
  | inl Ms =>
    rintro e w' ⟨⟨a, c, L, rfl, hL, hA⟩, hb⟩
    obtain ⟨_, hl, hall⟩ := checkM_all hC
    have hlen : (factsOf (.inl Ms)).length = L.length := by show (Ms.map fxM).length = _; rw [List.length_map, hA.1]
    rw [hlen]
    refine ⟨a, c, 0, 0, 0, rfl, allD_facR hL hA (fun M hM => ?_), fun _ => ⟨rfl, rfl, rfl⟩, fun h => absurd rfl (h Ms), hb⟩
    obtain ⟨k, hk, rfl⟩ := List.getElem_of_mem hM
    have hk2 : k < P.fs.length := by omega
    rw [(hall k hk2 hk).len]
    have := (hP.a _ (List.getElem_mem hk2)).c
    omega
end
section
open Go.RowKit
set_option linter.unusedVariables false
set_option linter.unusedSimpArgs false
attribute [local go_sem] over_cell over_frozen
set_option maxRecDepth 100000 in
set_option maxHeartbeats 4000000 in
theorem facts28_any (v : Value) (Fx : FxM) (w : World) (hf : FacR w v Fx) (hn1 : Fx.length ≤ 17) (hn2 : ∀ l ∈ Fx, l.length ≤ 4398046511103) : Calls Try.prog 33 #[v] w (RetFR w Fx) := by
  obtain ⟨L, hL, hLl, hLk⟩ := hf
  have HLK := Lib.hid hLk; have HLL := Lib.hid hLl
  have HN2 : Hid (∀ k, (h : k < Fx.length) → Fx[k].length ≤ 4398046511103) := Lib.hid (fun k h => hn2 _ (List.getElem_mem h))
  obtain ⟨va, vc, rfl, m2, m3⟩ := readR_len hL
  have m4 := cap_le m3
  have HL := Lib.hid hL
  have hn3 : L.length ≤ 17 := by omega
  clear hL hLl hLk m3 hn2 hn1
  go_enter Try.func33, Try.ntmps33
  go_wp2_with fail
  go_loopw [3, 11] (fun v i wr => ∃ k : Nat, k ≤ L.length ∧ i = .int .i64 k ∧ (∃ (a : Option Addr) (n c : Nat) (LL : List Sl), v = .slice a n c ∧ n = LL.length ∧ Hid (OurIn w wr Fx k LL) ∧ Hid (OwnR rsE SLT wr w.heap.size (.slice a LL.length c) LL)) ∧ Hid (Below w.heap.size w wr)) (fun _ i _ => L.length - (intOf i).toNat)
  case atStart => exact ⟨0, Nat.zero_le _, rfl, ⟨none, 0, 0, [], rfl, rfl, Lib.hid ⟨rfl, fun q hq => absurd hq (Nat.not_lt_zero _)⟩, Lib.hid (ownR_nil _ _)⟩, Lib.hid (Below.refl _ _)⟩
  case round =>
    obtain ⟨W1, hW1⟩ : ∃ x, x = wr := ⟨_, rfl⟩
    subst hW1
    obtain ⟨k, hk, rfl, ⟨a', n', c', LL, rfl, rfl, HIN, HOW⟩, HB⟩ := hrel
    have k0 : (0 : Int) ≤ k := by omega
    by_cases hlt : k < L.length
    · have k1 : (k : Int) < L.length := by omega
      obtain ⟨bl, off, cp, e1, r1, r2, hbl, r4⟩ := readR_pos (readR_below HL.out HB.out) (by omega)
      injection e1 with e1 _ e3
      subst e1
      have hcx := r4 k hlt 0 (by decide)
      have e2 : off + (k * rsE.size + 0) = off + k := by show off + (k * 1 + 0) = off + k; omega
      rw [e2] at hcx
      replace hcx : W1.cell? ⟨bl, off + k, none⟩ = some (.slice L[k].a L[k].n L[k].c) := hcx
      have hfx : k < Fx.length := by have := HLL.out; omega
      obtain ⟨s1, s2, s3⟩ := facL_form (HLK.out k hlt hfx)
      have s4 := HN2.out k hfx
      obtain ⟨F, hF, hF2, hF3⟩ := HLK.out k hlt hfx
      have HFX := Lib.hid hfx
      have HF3 := Lib.hid hF3
      rw [s1] at hcx
      have hF' : ReadR factE w (.slice L[k].a L[k].n L[k].c) F := hF
      rw [s1, ← hF2] at hF'
      rw [← hF2] at hcx s4 s2
      generalize L[k] = s at *
      obtain ⟨sa, sn, sc⟩ := s
      simp only at hcx hF' s2 s3
      have HF := Lib.hid hF'
      have HF2 := Lib.hid hF2
      clear r4 r1 r2 e3 e2 hF hF' s1 hF2 hF3
      go_wp2_with fail
      clear hcx hbl
      go_loopw [6, 17] (fun v i w2 => ∃ j : Nat, j ≤ F.length ∧ i = .int .i64 j ∧ (∃ (a : Option Addr) (n c : Nat) (HH : List (Bool × Sl)), v = .slice a n c ∧ n = HH.length ∧ Hid (HH = F.take j) ∧ Hid (OwnR factE FCT w2 W1.heap.size (.slice a HH.length c) HH)) ∧ Hid (Below W1.heap.size W1 w2)) (fun _ i _ => F.length - (intOf i).toNat)
      case atStart => exact ⟨0, Nat.zero_le _, rfl, ⟨none, 0, 0, [], rfl, rfl, Lib.hid rfl, Lib.hid (ownR_nil _ _)⟩, Lib.hid (Below.refl _ _)⟩
      case round =>
        obtain ⟨W2, hW2⟩ : ∃ x, x = wr := ⟨_, rfl⟩
        subst hW2
        obtain ⟨j, hj, rfl, ⟨a2, n2, c2, HH, rfl, rfl, HEQ, HOW2⟩, HB2⟩ := hrel
        have j0 : (0 : Int) ≤ j := by omega
        have HB02 := Lib.hid (b_call HB.out HB2.out)
        by_cases hjl : j < F.length
        · have j1 : (j : Int) < F.length := by omega
          obtain ⟨bf, of_, cf, e1, r1, r2, hbf, r4⟩ := readR_pos (readR_below HF.out HB02.out) (by omega)
          injection e1 with e1 _ e3
          subst e1
          have x0 := r4 j hjl 0 (by decide)
          have x1 := r4 j hjl 1 (by decide)
          have e2 : of_ + (j * factE.size + 0) = of_ + j * 2 := by show of_ + (j * 2 + 0) = _; omega
          have e4 : of_ + (j * factE.size + 1) = of_ + j * 2 + 1 := by show of_ + (j * 2 + 1) = _; omega
          rw [e2] at x0
          rw [e4] at x1
          replace x0 : W2.cell? ⟨bf, of_ + j * 2, none⟩ = some (.bool F[j].1) := x0
          replace x1 : W2.cell? ⟨bf, of_ + j * 2 + 1, none⟩ = some (.slice F[j].2.a F[j].2.n F[j].2.c) := x1
          have HT : Hid (F.take (j + 1) = F.take j ++ [F[j]]) := Lib.hid (List.take_succ_eq_append_getElem hjl)
          have HHL : Hid (HH.length = j) := Lib.hid (by rw [HEQ.out]; simp; omega)
          generalize F[j] = y at *
          obtain ⟨yb, ⟨ya, yn, yc⟩⟩ := y
          simp only at x0 x1
          clear r4 r1 r2 e3 e2 e4
          go_upto_region 9 with fail
          refine wp_named ?_
          intro W5 hW5
          have S5 : Blk W5 W2.heap.size [.bool yb, .slice ya yn yc] ∧ Below W2.heap.size W2 W5 := by
            first
            | (rw [hW5]; exact ⟨blk_new _ _ _, b_alloc (Below.refl _ _) _⟩)
            | exact store2 rfl hW5
          have HO5 := Lib.hid (ownR_below HOW2.out S5.2)
          have HB5 := Lib.hid (b_call HB2.out S5.2)
          have hbs := HB5.out.size
          obtain ⟨z0, z1, _⟩ := blk2 S5.1
          have zz := S5.1.1
          clear hW5 S5 x0 x1 hbf
          go_wp2_with (at_builtin; refine append1 (c := factE) rowFct (by rfl) _ _ (by rfl) (by rfl) (v := .slice a2 HH.length c2) (L := HH) (B := W1.heap.size) (ownR_alloc HO5.out _) ((yb, ⟨ya, yn, yc⟩) : Bool × Sl) _ 1 (by rfl) (blk_new9 rfl) ?c1 ?c2 ?c3 ?_; (case c1 => (have := HHL.out; omega)); (case c2 => (have := HHL.out; unfold maxLen; omega)); (case c3 => (simp; omega)); intro g9 cap9 w9 ho9 hg9 hor9 hl9; have HO9 := Lib.hid ho9; have HG9 := Lib.hid hg9; clear ho9 hg9 hor9 hl9)
          go_roundw
          case rel =>
            refine ⟨j + 1, by omega, by first | rfl | go_num, ⟨some ⟨g9, 0, none⟩, HH.length + 1, cap9, HH ++ [(yb, ⟨ya, yn, yc⟩)], rfl, by simp, Lib.hid (by rw [HT.out, HEQ.out]), Lib.hid (by rw [List.length_append]; exact HO9.out)⟩, Lib.hid (b_ownR (b_alloc HB5.out _) (ownR_alloc HO5.out _) HG9.out)⟩
          case measure => simp [intOf]; omega
        · have j1 : ¬ ((j : Int) < F.length) := by omega
          have HEF : Hid (HH = F) := Lib.hid (by rw [HEQ.out, List.take_of_length_le (by omega)])
          have HOW3 := Lib.hid (ownR_below HOW.out HB2.out)
          have hbs := HB02.out.size
          have hll : LL.length ≤ 17 := by have := HIN.out.1; omega
          go_wp2_with (at_builtin; refine append1 (c := rsE) rowSl (by rfl) _ _ (by rfl) (by rfl) (v := .slice a' LL.length c') (L := LL) (B := w.heap.size) (ownR_alloc HOW3.out _) (⟨a2, HH.length, c2⟩ : Sl) _ 1 (by rfl) (blk_new9 rfl) ?c1 ?c2 ?c3 ?_; (case c1 => (omega)); (case c2 => (unfold maxLen; omega)); (case c3 => (simp; omega)); intro g9 cap9 w9 ho9 hg9 hor9 hl9; have HO9 := Lib.hid ho9; have HG9 := Lib.hid hg9; clear ho9 hg9 hor9 hl9)
          go_roundw
          case rel =>
            refine ⟨k + 1, by omega, by first | rfl | go_num, ⟨some ⟨g9, 0, none⟩, LL.length + 1, cap9, LL ++ [⟨a2, HH.length, c2⟩], rfl, by simp, Lib.hid ?_, Lib.hid (by rw [List.length_append]; exact HO9.out)⟩, Lib.hid (b_ownR (b_alloc HB02.out _) (ownR_alloc HOW3.out _) HG9.out)⟩
            refine ourIn_snoc (ourIn_below HIN.out (b_alloc HB2.out _)) HFX.out ⟨F, ?_, ?_, HF2.out, fun q hq hq' => HF3.out q hq hq'⟩ HG9.out (fun z hz => ⟨SLT, ownR_ty (ownR_alloc HOW3.out _) z hz, by decide⟩)
            · have q := readR_below (ownR_read HOW2.out) (b_alloc (Below.refl W2.heap.size W2) (.cells #[.slice a2 HH.length c2] 88))
              rw [HEF.out] at q ⊢
              exact q
            · exact slOk_call (ownR_slOk HOW2.out) (b_alloc (Below.refl _ _) _)
          case measure => simp [intOf]; omega
    · have k1 : ¬ ((k : Int) < L.length) := by omega
      go_wp2_with fail
      go_ret
      have e9 : LL.length = Fx.length := by have := HIN.out.1; have := HLL.out; omega
      show RetFR w Fx (.returned (.slice a' LL.length c')) W1
      refine ⟨a', c', by rw [e9], ?_, HB.out⟩
      refine ⟨LL, by rw [← e9]; exact ownR_read HOW.out, e9, fun q hq hq' => facO_L (HIN.out.2 q hq hq') HB.out⟩
end
end Go.Proofs.Ytdmidnmciaediaa
