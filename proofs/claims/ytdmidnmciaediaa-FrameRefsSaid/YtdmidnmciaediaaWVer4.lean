/- Layer 26: the contracts of the program's of, wrong, named, at, places, reckons, calls, objects, blocks. Conditions: those stated. Layer 26: the contracts of the program's ways, leads; of slices.Grow, Concat, ContainsFunc as they are called there. Conditions: those stated. Layer 26: the contract of the document's Effect. Conditions: those stated. -/
import Derived.Test.YtdmidnmciaediaaWVer1
import Derived.Lib.AppendZerosOnto
import Derived.Test.YtdmidnmciaediaaWVerH
import Derived.Test.YtdmidnmciaediaaWOurs25
import Derived.Test.YtdmidnmciaediaaWTypP
namespace Go.Proofs.Ytdmidnmciaediaa
section
open Go.RowKit
set_option linter.unusedVariables false
set_option linter.unusedSimpArgs false
attribute [local go_sem] over_cell over_frozen
theorem v_blk3 {w : World} {g : Nat} {u0 u1 u2 : Value} (h : Blk w g [u0, u1, u2]) : w.cell? ⟨g, 0, none⟩ = some u0 ∧ w.cell? ⟨g, 1, none⟩ = some u1 ∧ w.cell? ⟨g, 2, none⟩ = some u2 ∧ ∀ i, w.frozen? ⟨g, i, none⟩ = false :=
  ⟨h.2.1 0 (by simp), h.2.1 1 (by simp), h.2.1 2 (by simp), h.2.2⟩
theorem gb_set3 (w : World) (X : Nat) (u0 u1 u2 : Value) : w.grownBy (((w.setCell ⟨X, 0, none⟩ u0).setCell ⟨X, 1, none⟩ u1).setCell ⟨X, 2, none⟩ u2) (some X) := gb_set (gb_set (gb_set (gb_refl _ _) _ _ _) _ _ _) _ _ _
end
section
open Go.RowKit
set_option linter.unusedVariables false
set_option linter.unusedSimpArgs false
attribute [local go_sem] over_cell over_frozen
theorem grow0 (w : World) : Calls Try.prog 117 #[.slice none 0 0, .int .i64 0] w fun e w' => e = .returned (.slice none 0 0) ∧ w = w' := by
  go_enter Try.func117, Try.ntmps117
  go_wp2_with fail
  go_ret
  exact ⟨rfl, rfl⟩
def GrowEnd (w : World) (e : Ending) (w' : World) : Prop := ∃ a c, e = .returned (.slice a 0 c) ∧ OwnI w' w.heap.size (.slice a 0 c) [] ∧ Below w.heap.size w w'
set_option maxRecDepth 100000 in
theorem grow_any (n : Nat) (hn : n ≤ 1000) (w : World) : Calls Try.prog 117 #[.slice none 0 0, .int .i64 n] w (GrowEnd w) := by
  rcases Nat.eq_zero_or_pos n with q | q
  · subst q
    refine (grow0 w).mono ?_
    rintro e w' ⟨rfl, rfl⟩
    exact ⟨none, 0, rfl, ownI_nil _ _, Below.refl _ _⟩
  · obtain ⟨i, hi, hz, hs, hb⟩ := info_parts rowInt.inf
    have hs : i.size = 1 := hs
    have hb : i.bytes = 8 := hb
    have n0 : (0 : Int) < n := by omega
    have n1 : (n : Int) ≤ 1000 := by omega
    have HR := Lib.run_append_nil_zeros (P := Try.prog) w 22 3 22 3 i _ .i64 .i64 under_ints Try.underlying3 hi hz n q (by omega) (by omega) (by rw [hb]; omega)
    have hcap := grownCap_ge w n 0 3
    have hcap2 := grownCap_le_maxLen w n 0 3 (by unfold maxLen; omega)
    have hcap3 := cap_le hcap2
    have HH := Lib.hid (And.intro hi (And.intro hz (And.intro hs hb)))
    have HC2 := Lib.hid hcap2
    generalize grownCap w n 0 3 = cap at *
    clear hi hz hs hb hcap2
    go_enter Try.func117, Try.ntmps117
    go_wp2_with (at_builtin; refine Lib.wpList_append_run _ rfl _ _ _ _ rfl _ _ rfl rfl _ _ HR ?_; clear HR)
    refine post_named ?_
    intro w1 hw1
    go_ret
    have hw1 := hw1
    refine ⟨some ⟨w.heap.size, 0, none⟩, cap, rfl, ⟨rfl, Or.inr ⟨w.heap.size, cap, _, rfl, Nat.le_refl _, by rw [hw1]; exact (MapKept.heap_alloc w.drew _).1, Nat.zero_le _, HC2.out, ?_, ?_⟩⟩, by rw [hw1]; exact b_alloc (b_drew (Below.refl _ _)) _⟩
    · rw [Array.size_append, size_zeroCells, size_zeroCells]
      show n * 1 + (cap - n) * 1 = cap * 1
      omega
    · rfl
def sumJ (m n j : Nat) : Nat := if j = 0 then 0 else if j = 1 then m else m + n
def catJ (xs ys : List Int) (j : Nat) : List Int := if j = 0 then [] else if j = 1 then xs else xs ++ ys
set_option maxHeartbeats 1000000 in
theorem concat_any (a1 a2 : Option Addr) (c1 c2 r : Nat) (xs ys : List Int) (w : World) (h1 : ReadI w (.slice a1 xs.length c1) xs) (h2 : ReadI w (.slice a2 ys.length c2) ys) (hr : Blk w r [.slice a1 xs.length c1, .slice a2 ys.length c2]) (hx : xs.length ≤ 100) (hy : ys.length ≤ 100) : Calls Try.prog 89 #[.slice (some ⟨r, 0, none⟩) 2 2] w (RetI w (xs ++ ys)) := by
  have H1 := Lib.hid h1; have H2 := Lib.hid h2; have HR := Lib.hid hr
  have HX := Lib.hid hx; have HY := Lib.hid hy
  have x0 : (xs.length : Int) ≤ 100 := by omega
  have y0 : (ys.length : Int) ≤ 100 := by omega
  have x1 : (0 : Int) ≤ xs.length := by omega
  have y1 : (0 : Int) ≤ ys.length := by omega
  obtain ⟨r0, r1, rf⟩ := blk2 hr
  have rz := hr.1
  clear h1 h2 hr hx hy
  go_enter Try.func89, Try.ntmps89
  go_wp2_with fail
  go_loopw [3, 11] (fun s i wr => ∃ j : Nat, j ≤ 2 ∧ i = .int .i64 j ∧ s = .int .i64 (sumJ xs.length ys.length j) ∧ w = wr) (fun _ i _ => 2 - (intOf i).toNat)
  case atStart => exact ⟨0, by omega, rfl, rfl, rfl⟩
  case round =>
    obtain ⟨j, hj, rfl, rfl, rfl⟩ := hrel
    rcases (show j = 0 ∨ j = 1 ∨ j = 2 by omega) with rfl | rfl | rfl
    · rw [show sumJ xs.length ys.length 0 = 0 from rfl]
      go_wp2_with fail
      go_roundw
      case rel => exact ⟨1, by omega, rfl, by first | rfl | (show Value.int .i64 _ = Value.int .i64 _; congr 1; first | omega | (simp [sumJ])), by first | rfl | trivial⟩
      case measure => simp [intOf]
    · rw [show sumJ xs.length ys.length 1 = xs.length from rfl]
      go_wp2_with fail
      go_roundw
      case rel => exact ⟨2, by omega, rfl, by first | rfl | (show Value.int .i64 _ = Value.int .i64 _; congr 1; first | omega | (simp [sumJ])), by first | rfl | trivial⟩
      case measure => simp [intOf]
    · rw [show sumJ xs.length ys.length 2 = xs.length + ys.length from rfl]
      go_wp2_with fail
      refine (grow_any (xs.length + ys.length) (by have := HX.out; have := HY.out; omega) _).mono ?_
      rintro e w1 ⟨ga, gc, rfl, own1, hb1⟩
      have OW1 := Lib.hid own1
      have HB1 := Lib.hid hb1
      clear own1 hb1 r0 r1 rf rz
      go_wp2_with fail
      go_loopw [6, 27] (fun v i w2 => ∃ j : Nat, j ≤ 2 ∧ i = .int .i64 j ∧ (∃ a c, v = .slice a (catJ xs ys j).length c ∧ Hid (OwnI w2 w.heap.size (.slice a (catJ xs ys j).length c) (catJ xs ys j))) ∧ Hid (Below w.heap.size w w2)) (fun _ i _ => 2 - (intOf i).toNat)
      case atStart => exact ⟨0, by omega, rfl, ⟨ga, gc, rfl, OW1⟩, HB1⟩
      case round =>
        obtain ⟨j, hj, rfl, ⟨va, vc, rfl, own⟩, hb⟩ := hrel
        have hbs := hb.out.size
        obtain ⟨r0, r1, rf⟩ := blk2 (blk_below HR.out hb.out)
        have rz := (blk_below HR.out hb.out).1
        rcases (show j = 0 ∨ j = 1 ∨ j = 2 by omega) with rfl | rfl | rfl
        · have own0 : OwnI wr w.heap.size (.slice va 0 vc) [] := own.out
          rw [show (catJ xs ys 0).length = 0 from rfl]
          have OWN := Lib.hid own0
          clear own own0
          go_wp2_with (at_builtin; refine appendI rfl _ _ rfl w.heap.size _ [] rfl OWN.out _ xs rfl (readI_below H1.out hb.out) ?c1 ?c2 ?_; (case c1 => (have := HX.out; simp; omega)); (case c2 => (exact hbs)); intro v3 w3 own3 hg3; obtain ⟨a3, k3, rfl⟩ := readI_len (ownI_read own3); rw [List.nil_append] at own3 ⊢; have OW3 := Lib.hid own3; have HB3 := Lib.hid (b_own hb.out OWN.out hg3); clear own3 hg3)
          go_roundw
          case rel => exact ⟨1, by omega, rfl, ⟨a3, k3, rfl, OW3⟩, HB3⟩
          case measure => simp [intOf]
        · have own0 : OwnI wr w.heap.size (.slice va xs.length vc) xs := own.out
          rw [show (catJ xs ys 1).length = xs.length from rfl]
          have OWN := Lib.hid own0
          clear own own0
          go_wp2_with (at_builtin; refine appendI rfl _ _ rfl w.heap.size _ xs rfl OWN.out _ ys rfl (readI_below H2.out hb.out) ?c1 ?c2 ?_; (case c1 => (have := HX.out; have := HY.out; omega)); (case c2 => (exact hbs)); intro v3 w3 own3 hg3; obtain ⟨a3, k3, rfl⟩ := readI_len (ownI_read own3); have OW3 := Lib.hid own3; have HB3 := Lib.hid (b_own hb.out OWN.out hg3); clear own3 hg3)
          go_roundw
          case rel => exact ⟨2, by omega, rfl, ⟨a3, k3, by first | rfl | (show _ = Value.slice a3 (xs ++ ys).length k3; rw [List.length_append]), OW3⟩, HB3⟩
          case measure => simp [intOf]
        · have own0 : OwnI wr w.heap.size (.slice va (xs ++ ys).length vc) (xs ++ ys) := own.out
          rw [show (catJ xs ys 2).length = (xs ++ ys).length from rfl]
          have OWN := Lib.hid own0
          clear own own0
          go_wp2_with fail
          go_ret
          exact ⟨va, vc, rfl, ownI_read OWN.out, hb.out⟩
def outB (f : FnM) (j : Int) : Bool := decide ((f.code.length : Int) ≤ j)
def backB (f : FnM) (k : Nat) (j : Int) : Bool := decide (j ≤ (k : Int)) && decide ((codeAt f j).op ≠ 16)
end
section
open Go.RowKit
set_option linter.unusedVariables false
set_option linter.unusedSimpArgs false
attribute [local go_sem] over_cell over_frozen
/-- A function whose instructions and kinds are such as may be. -/
structure GoodE (P : PrM) (f : FnM) : Prop where
  k1 : ∀ y ∈ f.ps ++ f.ls, 0 ≤ y
  k2 : ∀ y ∈ P.gl, 0 ≤ y
  i : ∀ i ∈ f.code, 0 ≤ i.op ∧ i.op < 37 ∧ 0 ≤ i.a
theorem tab_bd : ∀ n, n < 37 → (takesT n).length ≤ 10 ∧ (putsT n).length ≤ 2 := by decide
theorem deal_bd (P : PrM) (f : FnM) (i : In4) (st : List Int) (hP : SmallP P) (h37 : i.op < 37) : 0 ≤ (deal P f i st).c ∧ (deal P f i st).t.length ≤ 10 ∧ (deal P f i st).p.length ≤ 2 := by
  have hfn : (fnAtM P i.a).ps.length ≤ 10 := by
    unfold fnAtM
    rw [List.getD_eq_getElem?_getD]
    rcases Nat.lt_or_ge i.a.toNat P.fs.length with q | q
    · rw [List.getElem?_eq_getElem q]; exact (hP.a _ (List.getElem_mem q)).p
    · rw [List.getElem?_eq_none q]; decide
  have hin : ∀ (b : Bool) (D : Deal), (0 ≤ D.c ∧ D.t.length ≤ 10 ∧ D.p.length ≤ 2) → 0 ≤ (ifNamed b D).c ∧ (ifNamed b D).t.length ≤ 10 ∧ (ifNamed b D).p.length ≤ 2 := fun b D h => by
    unfold ifNamed; split
    · exact h
    · decide
  unfold deal
  generalize hn : i.op.toNat = n
  have hn2 : n < 37 := by omega
  unfold dealN
  split
  all_goals first
    | (apply hin; refine ⟨Int.le_refl 0, ?_, ?_⟩ <;> first | exact hfn | (simp; done))
    | (apply hin; split <;> (refine ⟨?_, ?_, ?_⟩ <;> decide))
    | (refine ⟨Int.le_refl 0, ?_, ?_⟩ <;> first | exact (tab_bd _ hn2).1 | exact (tab_bd _ hn2).2 | (simp; done))
    | (split <;> (refine ⟨?_, ?_, ?_⟩ <;> first | exact Int.le_refl 0 | decide | (simp [bad]; done)))
theorem ways_in {i : In4} {k : Nat} (h : 0 ≤ i.a) : (waysI i k).length ≤ 2 ∧ ∀ j ∈ waysI i k, 0 ≤ j := by
  unfold waysI
  split
  · refine ⟨by simp, fun j hj => ?_⟩; rw [List.mem_singleton] at hj; omega
  · split
    · refine ⟨by simp, fun j hj => ?_⟩
      simp only [List.mem_cons, List.not_mem_nil, or_false] at hj; omega
    · split
      · exact ⟨by simp, fun j hj => by cases hj⟩
      · refine ⟨by simp, fun j hj => ?_⟩; rw [List.mem_singleton] at hj; omega
theorem readI_empty (w : World) (a : Addr) (c : Nat) (hc : c ≤ maxLen) : ReadI w (.slice (some a) 0 c) [] := ⟨_, c, rfl, Nat.zero_le _, hc, (fun e => by cases e), fun h => absurd h (by simp)⟩
/-- 's[m:]', whatever it lies in. -/
theorem sl_cases {w : World} {sa : Option Addr} {N sc m : Nat} {st : List Int} (h : ReadI w (.slice sa N sc) st) (hm : m ≤ N) :
    (sa = none ∧ N = 0 ∧ sc = 0 ∧ m = 0 ∧ st = []) ∨ (∃ a, sa = some a ∧ N = 0 ∧ m = 0 ∧ st = [] ∧ sc ≤ maxLen) ∨ (∃ bb oo, sa = some ⟨bb, oo, none⟩ ∧ sc = m ∧ N = m ∧ st.drop m = [] ∧ 0 < N ∧ sc ≤ maxLen) ∨ (∃ bb oo, sa = some ⟨bb, oo, none⟩ ∧ sc ≠ m ∧ m ≤ sc ∧ sc ≤ maxLen ∧ 0 < N ∧ ∀ w', Below w.heap.size w w' → ReadI w' (.slice (some ⟨bb, oo + m, none⟩) (N - m) (sc - m)) (st.drop m)) := by
  have h' := h
  obtain ⟨a, c, e, h1, h2, h3, h4⟩ := h
  injection e with e1 e2 e3
  subst e1 e3
  rcases Nat.eq_zero_or_pos N with q | q
  · have hst : st = [] := List.eq_nil_of_length_eq_zero (by omega)
    cases sa with
    | none => exact Or.inl ⟨rfl, q, h3 rfl, by omega, hst⟩
    | some a => exact Or.inr (Or.inl ⟨a, rfl, q, by omega, hst, h2⟩)
  · obtain ⟨b, o, rfl, _, _⟩ := h4 (by omega)
    by_cases hc : sc = m
    · refine Or.inr (Or.inr (Or.inl ⟨b, o, rfl, hc, by omega, ?_, q, h2⟩))
      exact List.drop_of_length_le (by omega)
    · refine Or.inr (Or.inr (Or.inr ⟨b, o, rfl, hc, by omega, h2, q, fun w' hb => ?_⟩))
      have r := readI_R (readI_below h' hb)
      rw [e2] at r
      have r2 := readR_I (readR_drop (n := m) r (by omega))
      have e5 : o + m * intE.size = o + m := by show o + m * 1 = _; omega
      rw [e5, ← e2] at r2
      exact r2
theorem readI_end {w : World} {bb oo : Nat} {c : Nat} {xs : List Int} (h : xs = []) (hc : c ≤ maxLen) {n : Nat} (hn : n = 0) : ReadI w (.slice (some ⟨bb, oo, none⟩) n c) xs := by subst h hn; exact readI_empty _ _ _ hc
theorem ownI_slOk {w : World} {B : Nat} {a : Option Addr} {n cap : Nat} {xs : List Int} (h : OwnI w B (.slice a n cap) xs) : slOk w 3 a n := by
  obtain ⟨h1, h2⟩ := h
  rcases h2 with ⟨e, _⟩ | ⟨g, cap, cur, e, _, h4, _⟩
  · injection e with _ e2 _; exact Or.inl e2
  · injection e with e1 _ _
    refine Or.inr ⟨g, e1, ?_⟩
    unfold tyB; rw [h4]
/-- Three results: two lists and a number; the first list in a block of ints. -/
def RetDS (w : World) (D : Deal) (e : Ending) (w' : World) : Prop := ∃ a c b d, e = .returned (.tuple #[.slice a D.t.length c, .slice b D.p.length d, .int .i64 D.c]) ∧ ReadI w' (.slice a D.t.length c) D.t ∧ ReadI w' (.slice b D.p.length d) D.p ∧ Below w.heap.size w w' ∧ slOk w' 3 a D.t.length
set_option maxRecDepth 100000 in
set_option maxHeartbeats 8000000 in
theorem reff_any (p : PrV) (P : PrM) (v : FnV) (f : FnM) (k : Nat) (sa : Option Addr) (sc : Nat) (st : List Int) (w : World) (h : ReadP w p P) (hs : SmallP P) (hf : DeepF w v f) (hsf : SmallF f) (hst : ReadI w (.slice sa st.length sc) st) (hl : st.length ≤ 100) (hk : k < f.code.length) (hk2 : f.code.length ≤ 200) (hG : GoodE P f) : Calls Try.prog 41 #[aggP p, aggF v, .int .i64 k, .slice sa st.length sc] w (RetDS w (effect P f k st)) := by
  obtain ⟨u, ⟨ga, gn, gc⟩, m0, ⟨fa, fn, fc⟩⟩ := p
  obtain ⟨⟨pa, pn, pc⟩, ⟨la, ln, lc⟩, r, ⟨ca, cn, cc⟩⟩ := v
  have HR := Lib.hid h; have HF := Lib.hid hf; have HST := Lib.hid hst; have HS := Lib.hid hs; have HSF := Lib.hid hsf; have HG := Lib.hid hG
  obtain ⟨cb, co, ccap, ec, hc1, hc2, hcb, h4⟩ := readR_pos hf.c (by omega)
  have ec2 : Value.slice ca cn cc = .slice (some ⟨cb, co, none⟩) f.code.length ccap := ec
  injection ec2 with ec3 ec4 ec5
  subst ec3 ec4 ec5
  have HC4 := Lib.hid h4
  have hcap := cap_le hc2
  obtain ⟨d0, d1, d2, d3⟩ := in_cells h4 k hk
  have hgi := hG.i _ (List.getElem_mem hk)
  obtain ⟨i, hi⟩ : ∃ i, i = f.code[k] := ⟨_, rfl⟩
  have HCI : Hid (codeAt f k = i) := Lib.hid (by rw [hi]; unfold codeAt; rw [show ((k : Int).toNat) = k from rfl, List.getD_eq_getElem?_getD, List.getElem?_eq_getElem hk]; rfl)
  rw [← hi] at d0 d1 d2 d3 hgi
  obtain ⟨iop, ix, ia, ib⟩ := i
  simp only at d0 d1 d2 d3 hgi
  obtain ⟨o0, o37, ia0⟩ := hgi
  have HD4 := Lib.hid (And.intro d0 (And.intro d1 (And.intro d2 d3)))
  obtain ⟨D, hD⟩ : ∃ D, D = deal P f ⟨iop, ix, ia, ib⟩ st := ⟨_, rfl⟩
  have HD := Lib.hid hD
  obtain ⟨bd1, bd2, bd3⟩ : 0 ≤ D.c ∧ D.t.length ≤ 10 ∧ D.p.length ≤ 2 := by rw [hD]; exact deal_bd P f _ st hs o37
  obtain ⟨E, hE⟩ : ∃ E, E = effect P f k st := ⟨_, rfl⟩
  have HE : Hid (E = effD f ⟨iop, ix, ia, ib⟩ k st D) := Lib.hid (by rw [hE, hD]; unfold effect; rw [HCI.out])
  rw [← hE]
  have HW2 := Lib.hid (ways_in (i := ⟨iop, ix, ia, ib⟩) (k := k) ia0)
  obtain ⟨hq0, hsc, hsc2⟩ := int_len (s := ⟨sa, st.length, sc⟩) hst
  simp only at hsc hsc2
  have HK2 := Lib.hid hk2
  have HHK := Lib.hid hk
  have HCB := Lib.hid hcb
  have k0 : (0 : Int) ≤ k := by omega
  have k1 : (k : Int) < f.code.length := by omega
  have k2 : (k : Int) < cc := by omega
  have HL := Lib.hid hl
  clear hq0 h hf hst hs hsf hG ec h4 hD hE hk2 hi d0 d1 d2 d3 hc2 hcb
  unfold aggP aggF Sl.v
  simp only
  go_enter Try.func41, Try.ntmps41
  go_upto_region 1 with fail
  refine wp_named ?_
  intro W hW
  obtain ⟨q1, q2, q3⟩ := boxes2 w #[.bool u, .slice ga gn gc, .int .i64 m0, .slice fa fn fc] #[.slice pa pn pc, .slice la ln lc, .int .i64 r, .slice (some ⟨cb, co, none⟩) f.code.length cc] 25 35
  rw [← hW] at q1 q2 q3
  have HBW := Lib.hid q3
  have HK : Hid (∀ w', Below W.heap.size W w' → (w'.cell? ⟨w.heap.size, 0, none⟩ = some (.bool u) ∧ w'.cell? ⟨w.heap.size, 1, none⟩ = some (.slice ga gn gc) ∧ w'.cell? ⟨w.heap.size, 2, none⟩ = some (.int .i64 m0) ∧ w'.cell? ⟨w.heap.size, 3, none⟩ = some (.slice fa fn fc)) ∧ (w'.cell? ⟨w.heap.size + 1, 0, none⟩ = some (.slice pa pn pc) ∧ w'.cell? ⟨w.heap.size + 1, 1, none⟩ = some (.slice la ln lc) ∧ w'.cell? ⟨w.heap.size + 1, 2, none⟩ = some (.int .i64 r) ∧ w'.cell? ⟨w.heap.size + 1, 3, none⟩ = some (.slice (some ⟨cb, co, none⟩) f.code.length cc)) ∧ (w'.cell? ⟨cb, co + k * 4, none⟩ = some (.int .i64 iop) ∧ w'.cell? ⟨cb, co + k * 4 + 1, none⟩ = some (.int .u64 ix) ∧ w'.cell? ⟨cb, co + k * 4 + 2, none⟩ = some (.int .i64 ia) ∧ w'.cell? ⟨cb, co + k * 4 + 3, none⟩ = some (.int .i64 ib))) := Lib.hid (fun w' hb => by
    obtain ⟨y0, y1, y2, y3, _⟩ := blk4 (blk_below q1 hb)
    obtain ⟨z0, z1, z2, z3, _⟩ := blk4 (blk_below q2 hb)
    have hc := (bcell (b_call HBW.out hb)).1
    exact ⟨⟨y0, y1, y2, y3⟩, ⟨z0, z1, z2, z3⟩, (hc _ _ HCB.out).trans HD4.out.1, (hc _ _ HCB.out).trans HD4.out.2.1, (hc _ _ HCB.out).trans HD4.out.2.2.1, (hc _ _ HCB.out).trans HD4.out.2.2.2⟩)
  have HZ : Hid (∀ w', Below W.heap.size W w' → w.heap.size < w'.heap.size ∧ w.heap.size + 1 < w'.heap.size) := Lib.hid (fun w' hb => ⟨(blk_below q1 hb).1, (blk_below q2 hb).1⟩)
  clear hW q1 q2 q3
  refine wp_region_held_drew (S := fun w' => (w'.cell? ⟨w.heap.size, 0, none⟩ = some (.bool u) ∧ w'.cell? ⟨w.heap.size, 1, none⟩ = some (.slice ga gn gc) ∧ w'.cell? ⟨w.heap.size, 2, none⟩ = some (.int .i64 m0) ∧ w'.cell? ⟨w.heap.size, 3, none⟩ = some (.slice fa fn fc)) ∧ (w'.cell? ⟨w.heap.size + 1, 0, none⟩ = some (.slice pa pn pc) ∧ w'.cell? ⟨w.heap.size + 1, 1, none⟩ = some (.slice la ln lc) ∧ w'.cell? ⟨w.heap.size + 1, 2, none⟩ = some (.int .i64 r) ∧ w'.cell? ⟨w.heap.size + 1, 3, none⟩ = some (.slice (some ⟨cb, co, none⟩) f.code.length cc)) ∧ (w'.cell? ⟨cb, co + k * 4, none⟩ = some (.int .i64 iop) ∧ w'.cell? ⟨cb, co + k * 4 + 1, none⟩ = some (.int .u64 ix) ∧ w'.cell? ⟨cb, co + k * 4 + 2, none⟩ = some (.int .i64 ia) ∧ w'.cell? ⟨cb, co + k * 4 + 3, none⟩ = some (.int .i64 ib))) (by kernel_rfl) (HK.out _ (b_drew (Below.refl _ _))) (fun hHeld => ?_)
  refine atI 0 ?_
  iterate 8 (refine takeN (v := ?_) rfl (by rfl) ?_ hHeld ?_; rotate_left; (focus (intro w hSw; (try dsimp only at hSw); go_simp; try (with_reducible rfl))); (try simp only [Act.put, Nat.reduceAdd, List.getElem_toArray, List.getElem_cons_succ, List.getElem_cons_zero, List.setIfInBounds_toArray, List.set_cons_zero, List.set_cons_succ]))
  refine atIo ?_
  refine wpAnyH_ready (rs := [8]) (by kernel_rfl) (by simp) (AllReadyH.cons rfl (fun K hK => ?_) AllReadyH.nil)
  go_simp
  refine (rdeal_any ⟨u, ⟨ga, gn, gc⟩, m0, ⟨fa, fn, fc⟩⟩ P ⟨⟨pa, pn, pc⟩, ⟨la, ln, lc⟩, r, ⟨some ⟨cb, co, none⟩, f.code.length, cc⟩⟩ f iop ix ia ib sa sc st _ (readP_below HR.out (b_drew HBW.out)) HS.out (deepF_below HF.out (b_drew HBW.out)) HSF.out.p HSF.out.l (readI_below HST.out (b_drew HBW.out)) HL.out HG.out.k1 HG.out.k2 o0 o37 ia0).mono ?_
  rw [← HD.out]
  rintro e w1 ⟨ta, tc, ka, kc, rfl, hrt, hrp, hb1⟩
  have HRT := Lib.hid hrt; have HRP := Lib.hid hrp
  have HB1 := Lib.hid (b_call (b_drew (Below.refl W.heap.size W)) hb1)
  clear hrt hrp hb1
  refine hK.out _ _ (HK.out _ HB1.out) (fun hHeld => ?_)
  clear hK K
  (try simp only [Act.put, List.getElem_toArray, List.getElem_cons_succ, List.getElem_cons_zero, List.setIfInBounds_toArray, List.set_cons_zero, List.set_cons_succ])
  refine atI 9 ?_
  iterate 7 (refine takeN (v := ?_) rfl (by rfl) ?_ hHeld ?_; rotate_left; (focus (intro w hSw; (try dsimp only at hSw); go_simp; try (with_reducible rfl))); (try simp only [Act.put, Nat.reduceAdd, List.getElem_toArray, List.getElem_cons_succ, List.getElem_cons_zero, List.setIfInBounds_toArray, List.set_cons_zero, List.set_cons_succ]))
  refine atIo ?_
  refine wpAnyH_done (by kernel_rfl) ?_ _
  have HB01 := Lib.hid (b_call HBW.out HB1.out)
  have HST1 := Lib.hid (readI_below HST.out HB01.out)
  by_cases hc : D.c = 0
  case neg =>
    have hcp : 0 < D.c := by omega
    have EE : Hid (E = bad D.c) := Lib.hid (by rw [HE.out]; unfold effD; rw [if_pos hc])
    clear hc
    go_wp2_with fail
    go_ret3
    show RetDS w _ _ _
    rw [EE.out]
    exact ⟨none, 0, none, 0, rfl, readI_nil _, readI_nil _, HB01.out, Or.inl rfl⟩
  case pos =>
    rw [hc]
    have HC0 := Lib.hid hc
    clear hc
    by_cases hlt : st.length < D.t.length
    · have EE : Hid (E = bad 2) := Lib.hid (by rw [HE.out]; unfold effD; rw [if_neg (by simp [HC0.out]), if_pos (Or.inl (by omega))])
      have l1 : (st.length : Int) < D.t.length := by omega
      have l2 : (D.t.length : Int) ≤ 10 := by omega
      clear hlt
      go_wp2_with fail
      go_ret3
      show RetDS w _ _ _
      rw [EE.out]
      exact ⟨none, 0, none, 0, rfl, readI_nil _, readI_nil _, HB01.out, Or.inl rfl⟩
    · obtain ⟨m, hm⟩ : ∃ m, st.length - D.t.length = m := ⟨_, rfl⟩
      have hmi : (st.length : Int) - D.t.length = m := by omega
      have hmn : m ≤ st.length := by omega
      have hm100 : (m : Int) ≤ 100 := by omega
      have hm0 : (0 : Int) ≤ m := by omega
      have HMI := Lib.hid (And.intro hm hmi)
      have HMN := Lib.hid hmn
      have HEE : Hid (E = if st.drop m ≠ D.t ∨ (iop = 15 ∧ 0 < m) then bad 2 else if 16 < m + D.p.length then bad 3 else if (waysI ⟨iop, ix, ia, ib⟩ k).any (outB f) = true then bad 1 else if (waysI ⟨iop, ix, ia, ib⟩ k).any (backB f k) = true then bad 6 else ⟨st.take m ++ D.p, waysI ⟨iop, ix, ia, ib⟩ k, 0⟩) := Lib.hid (by
        rw [HE.out]; unfold effD
        rw [if_neg (by simp [HC0.out]), hm]
        have e1 : ((st.length : Int) < D.t.length ∨ st.drop m ≠ D.t ∨ (iop = 15 ∧ D.t.length < st.length)) ↔ (st.drop m ≠ D.t ∨ (iop = 15 ∧ 0 < m)) := by
          constructor
          · rintro (q | q | q)
            · omega
            · exact Or.inl q
            · exact Or.inr ⟨q.1, by omega⟩
          · rintro (q | q)
            · exact Or.inr (Or.inl q)
            · exact Or.inr (Or.inr ⟨q.1, by omega⟩)
        simp only [e1]
        rfl)
      have l3 : (D.t.length : Int) ≤ st.length := by omega
      have l4 : (st.length : Int) ≤ 100 := by omega
      have hmsc : (m : Int) ≤ sc := by omega
      clear hlt hm
      go_upto_region 4 with fail
      go_cut [14] (fun v wx => v = .int .i64 m ∧ Below w1.heap.size w1 wx)
      case first =>
        clear hm0 hm100 hmsc
        go_wp2_with fail
        go_meet
        case rel => exact ⟨by first | rfl | (show Value.int .i64 _ = _; rw [HMI.out.2]) | (show Value.int .i64 _ = Value.int .i64 _; congr 1), Below.refl _ _⟩
      case rest =>
        clear hmi l3
        obtain ⟨rfl, hbc⟩ := hcut
        have HBC := Lib.hid (b_call HB1.out hbc)
        have HB02 := Lib.hid (b_call HBW.out (b_call HB1.out hbc))
        have HRT2 := Lib.hid (readI_below HRT.out hbc)
        have HRP2 := Lib.hid (readI_below HRP.out hbc)
        have HST2 := Lib.hid (readI_below HST1.out hbc)
        clear hbc
        obtain ⟨q, hq⟩ : ∃ q, q = decide (st.drop m = D.t) := ⟨_, rfl⟩
        have HQ := Lib.hid hq
        have HSM : Hid (∀ v, ReadI wc v (st.drop m) → Calls Try.prog 29 #[v, .slice ta D.t.length tc] wc fun e w' => e = .returned (.bool q) ∧ Below wc.heap.size wc w') := Lib.hid (fun v hv => by
          have z := rsame_any v (.slice ta D.t.length tc) (st.drop m) D.t wc hv HRT2.out (by rw [List.length_drop]; have := HL.out; omega) (by omega)
          rw [← hq] at z
          exact z)
        clear hq
        obtain ⟨q2, hq2⟩ : ∃ q2, q2 = (!q || (decide (iop = 15) && decide (0 < m))) := ⟨_, rfl⟩
        have HQ2 := Lib.hid hq2
        clear hq2
        go_upto_region 5 with fail
        go_cut [63] (fun v wx => v = .bool q2 ∧ Below wc.heap.size wc wx)
        case first =>
          obtain ⟨⟨y0, y1, y2, y3⟩, ⟨z0, z1, z2, z3⟩, x0, x1, x2, x3⟩ := HK.out wc HBC.out
          have FIN : Hid (∀ (b : Bool), (iop == 15) = b → q2 = (!q || (b && decide (0 < m)))) := Lib.hid (fun b hb => by
            rw [HQ2.out, ← hb]
            congr 1)
          rcases sl_cases HST2.out HMN.out with ⟨e1, e2, e3, e4, e5⟩ | ⟨aa, e1, e2, e4, e5, e6⟩ | ⟨bb, oo, e1, e2, e3, e4, e5, e6⟩ | ⟨bb, oo, e1, e2, e3, e4, e5, e6⟩
          case inl =>
            clear FIN
            subst e1
            have E2 := Lib.hid e2
            have E3 := Lib.hid e3
            have E9 : Hid (st.drop m = []) := Lib.hid (by rw [e5]; exact List.drop_nil)
            clear e5
            clear e2 e3 e4
            cases q
            · have F1 : Hid (q2 = true) := Lib.hid (by rw [HQ2.out]; rfl)
              go_wp2_with fail
              refine (HSM.out _ (by rw [E9.out, show st.length - m = 0 by have := E2.out; omega, show sc - m = 0 by have := E3.out; omega]; exact readI_nil _)).mono ?_
              rintro e w2 ⟨rfl, hb2⟩
              go_wp2_with fail
              go_meet
              case rel => exact ⟨by rw [F1.out]; first | done | rfl | (congr 1; exact decide_eq_false (by omega)), by (repeat' (first | exact Below.refl _ _ | assumption | refine b_alloc ?_ _ | refine b_over ?_ _ | refine b_drew ?_ | refine b_call ?_ (by assumption)))⟩
            · by_cases h15 : iop = 15
              · have h15b : (iop == 15) = true := beq_iff_eq.2 h15
                have H15 := Lib.hid h15
                clear h15
                by_cases hm1 : 0 < m
                · have F1 : Hid (q2 = true) := Lib.hid (by rw [HQ2.out]; simp [hm1, H15.out])
                  have hm2 : (0 : Int) < m := by omega
                  go_wp2_with fail
                  refine (HSM.out _ (by rw [E9.out, show st.length - m = 0 by have := E2.out; omega, show sc - m = 0 by have := E3.out; omega]; exact readI_nil _)).mono ?_
                  rintro e w2 ⟨rfl, hb2⟩
                  obtain ⟨⟨y0, y1, y2, y3⟩, ⟨z0, z1, z2, z3⟩, x0, x1, x2, x3⟩ := HK.out w2 (b_call HBC.out hb2)
                  obtain ⟨g0, g1⟩ := HZ.out w2 (b_call HBC.out hb2)
                  go_wp2_with fail
                  go_meet
                  case rel => exact ⟨by rw [F1.out]; first | done | rfl | (congr 1; exact decide_eq_false (by omega)), by (repeat' (first | exact Below.refl _ _ | assumption | refine b_alloc ?_ _ | refine b_over ?_ _ | refine b_drew ?_ | refine b_call ?_ (by assumption)))⟩
                · have F1 : Hid (q2 = false) := Lib.hid (by rw [HQ2.out]; simp [hm1])
                  have hm2 : ¬ ((0 : Int) < m) := by omega
                  clear hm1
                  go_wp2_with fail
                  refine (HSM.out _ (by rw [E9.out, show st.length - m = 0 by have := E2.out; omega, show sc - m = 0 by have := E3.out; omega]; exact readI_nil _)).mono ?_
                  rintro e w2 ⟨rfl, hb2⟩
                  obtain ⟨⟨y0, y1, y2, y3⟩, ⟨z0, z1, z2, z3⟩, x0, x1, x2, x3⟩ := HK.out w2 (b_call HBC.out hb2)
                  obtain ⟨g0, g1⟩ := HZ.out w2 (b_call HBC.out hb2)
                  go_wp2_with fail
                  go_meet
                  case rel => exact ⟨by rw [F1.out]; first | rfl | (congr 1; exact decide_eq_false (show ¬ (0 < m) by omega)) | (congr 1; exact decide_eq_false (show ¬ ((0 : Int) < m) by omega)), by (repeat' (first | exact Below.refl _ _ | assumption | refine b_alloc ?_ _ | refine b_over ?_ _ | refine b_drew ?_ | refine b_call ?_ (by assumption)))⟩
              · have F1 : Hid (q2 = false) := Lib.hid (by rw [HQ2.out]; simp [h15])
                have n15 : (iop == 15) = false := beq_false_of_ne h15
                clear h15
                go_wp2_with fail
                refine (HSM.out _ (by rw [E9.out, show st.length - m = 0 by have := E2.out; omega, show sc - m = 0 by have := E3.out; omega]; exact readI_nil _)).mono ?_
                rintro e w2 ⟨rfl, hb2⟩
                obtain ⟨⟨y0, y1, y2, y3⟩, ⟨z0, z1, z2, z3⟩, x0, x1, x2, x3⟩ := HK.out w2 (b_call HBC.out hb2)
                obtain ⟨g0, g1⟩ := HZ.out w2 (b_call HBC.out hb2)
                go_wp2_with fail
                go_meet
                case rel => exact ⟨by rw [F1.out]; first | done | rfl | (congr 1; exact decide_eq_false (by omega)), by (repeat' (first | exact Below.refl _ _ | assumption | refine b_alloc ?_ _ | refine b_over ?_ _ | refine b_drew ?_ | refine b_call ?_ (by assumption)))⟩
          case inr.inl =>
            clear FIN
            subst e1
            obtain ⟨ab, ao, az⟩ := aa
            have E2 := Lib.hid e2
            have E6 := Lib.hid e6
            have E9 : Hid (st.drop m = []) := Lib.hid (by rw [e5]; exact List.drop_nil)
            clear e5
            clear e2 e4
            have hsm2 := cap_le e6
            by_cases hzz : sc = m
            · have hz : (sc = m) = True := by rw [hzz]; simp
              clear hzz
              cases q
              · have F1 : Hid (q2 = true) := Lib.hid (by rw [HQ2.out]; rfl)
                go_wp2_with fail
                refine (HSM.out _ (by rw [E9.out, show st.length - m = 0 by have := E2.out; omega]; exact readI_empty _ _ _ (by have := E6.out; omega))).mono ?_
                rintro e w2 ⟨rfl, hb2⟩
                go_wp2_with fail
                go_meet
                case rel => exact ⟨by rw [F1.out]; first | done | rfl | (congr 1; exact decide_eq_false (by omega)), by (repeat' (first | exact Below.refl _ _ | assumption | refine b_alloc ?_ _ | refine b_over ?_ _ | refine b_drew ?_ | refine b_call ?_ (by assumption)))⟩
              · by_cases h15 : iop = 15
                · have h15b : (iop == 15) = true := beq_iff_eq.2 h15
                  have H15 := Lib.hid h15
                  clear h15
                  by_cases hm1 : 0 < m
                  · have F1 : Hid (q2 = true) := Lib.hid (by rw [HQ2.out]; simp [hm1, H15.out])
                    have hm2 : (0 : Int) < m := by omega
                    go_wp2_with fail
                    refine (HSM.out _ (by rw [E9.out, show st.length - m = 0 by have := E2.out; omega]; exact readI_empty _ _ _ (by have := E6.out; omega))).mono ?_
                    rintro e w2 ⟨rfl, hb2⟩
                    obtain ⟨⟨y0, y1, y2, y3⟩, ⟨z0, z1, z2, z3⟩, x0, x1, x2, x3⟩ := HK.out w2 (b_call HBC.out hb2)
                    obtain ⟨g0, g1⟩ := HZ.out w2 (b_call HBC.out hb2)
                    go_wp2_with fail
                    go_meet
                    case rel => exact ⟨by rw [F1.out]; first | done | rfl | (congr 1; exact decide_eq_false (by omega)), by (repeat' (first | exact Below.refl _ _ | assumption | refine b_alloc ?_ _ | refine b_over ?_ _ | refine b_drew ?_ | refine b_call ?_ (by assumption)))⟩
                  · have F1 : Hid (q2 = false) := Lib.hid (by rw [HQ2.out]; simp [hm1])
                    have hm2 : ¬ ((0 : Int) < m) := by omega
                    clear hm1
                    go_wp2_with fail
                    refine (HSM.out _ (by rw [E9.out, show st.length - m = 0 by have := E2.out; omega]; exact readI_empty _ _ _ (by have := E6.out; omega))).mono ?_
                    rintro e w2 ⟨rfl, hb2⟩
                    obtain ⟨⟨y0, y1, y2, y3⟩, ⟨z0, z1, z2, z3⟩, x0, x1, x2, x3⟩ := HK.out w2 (b_call HBC.out hb2)
                    obtain ⟨g0, g1⟩ := HZ.out w2 (b_call HBC.out hb2)
                    go_wp2_with fail
                    go_meet
                    case rel => exact ⟨by rw [F1.out]; first | rfl | (congr 1; exact decide_eq_false (show ¬ (0 < m) by omega)) | (congr 1; exact decide_eq_false (show ¬ ((0 : Int) < m) by omega)), by (repeat' (first | exact Below.refl _ _ | assumption | refine b_alloc ?_ _ | refine b_over ?_ _ | refine b_drew ?_ | refine b_call ?_ (by assumption)))⟩
                · have F1 : Hid (q2 = false) := Lib.hid (by rw [HQ2.out]; simp [h15])
                  have n15 : (iop == 15) = false := beq_false_of_ne h15
                  clear h15
                  go_wp2_with fail
                  refine (HSM.out _ (by rw [E9.out, show st.length - m = 0 by have := E2.out; omega]; exact readI_empty _ _ _ (by have := E6.out; omega))).mono ?_
                  rintro e w2 ⟨rfl, hb2⟩
                  obtain ⟨⟨y0, y1, y2, y3⟩, ⟨z0, z1, z2, z3⟩, x0, x1, x2, x3⟩ := HK.out w2 (b_call HBC.out hb2)
                  obtain ⟨g0, g1⟩ := HZ.out w2 (b_call HBC.out hb2)
                  go_wp2_with fail
                  go_meet
                  case rel => exact ⟨by rw [F1.out]; first | done | rfl | (congr 1; exact decide_eq_false (by omega)), by (repeat' (first | exact Below.refl _ _ | assumption | refine b_alloc ?_ _ | refine b_over ?_ _ | refine b_drew ?_ | refine b_call ?_ (by assumption)))⟩
            · skip
              cases q
              · have F1 : Hid (q2 = true) := Lib.hid (by rw [HQ2.out]; rfl)
                go_wp2_with fail
                refine (HSM.out _ (by rw [E9.out, show st.length - m = 0 by have := E2.out; omega]; exact readI_empty _ _ _ (by have := E6.out; omega))).mono ?_
                rintro e w2 ⟨rfl, hb2⟩
                go_wp2_with fail
                go_meet
                case rel => exact ⟨by rw [F1.out]; first | done | rfl | (congr 1; exact decide_eq_false (by omega)), by (repeat' (first | exact Below.refl _ _ | assumption | refine b_alloc ?_ _ | refine b_over ?_ _ | refine b_drew ?_ | refine b_call ?_ (by assumption)))⟩
              · by_cases h15 : iop = 15
                · have h15b : (iop == 15) = true := beq_iff_eq.2 h15
                  have H15 := Lib.hid h15
                  clear h15
                  by_cases hm1 : 0 < m
                  · have F1 : Hid (q2 = true) := Lib.hid (by rw [HQ2.out]; simp [hm1, H15.out])
                    have hm2 : (0 : Int) < m := by omega
                    go_wp2_with fail
                    refine (HSM.out _ (by rw [E9.out, show st.length - m = 0 by have := E2.out; omega]; exact readI_empty _ _ _ (by have := E6.out; omega))).mono ?_
                    rintro e w2 ⟨rfl, hb2⟩
                    obtain ⟨⟨y0, y1, y2, y3⟩, ⟨z0, z1, z2, z3⟩, x0, x1, x2, x3⟩ := HK.out w2 (b_call HBC.out hb2)
                    obtain ⟨g0, g1⟩ := HZ.out w2 (b_call HBC.out hb2)
                    go_wp2_with fail
                    go_meet
                    case rel => exact ⟨by rw [F1.out]; first | done | rfl | (congr 1; exact decide_eq_false (by omega)), by (repeat' (first | exact Below.refl _ _ | assumption | refine b_alloc ?_ _ | refine b_over ?_ _ | refine b_drew ?_ | refine b_call ?_ (by assumption)))⟩
                  · have F1 : Hid (q2 = false) := Lib.hid (by rw [HQ2.out]; simp [hm1])
                    have hm2 : ¬ ((0 : Int) < m) := by omega
                    clear hm1
                    go_wp2_with fail
                    refine (HSM.out _ (by rw [E9.out, show st.length - m = 0 by have := E2.out; omega]; exact readI_empty _ _ _ (by have := E6.out; omega))).mono ?_
                    rintro e w2 ⟨rfl, hb2⟩
                    obtain ⟨⟨y0, y1, y2, y3⟩, ⟨z0, z1, z2, z3⟩, x0, x1, x2, x3⟩ := HK.out w2 (b_call HBC.out hb2)
                    obtain ⟨g0, g1⟩ := HZ.out w2 (b_call HBC.out hb2)
                    go_wp2_with fail
                    go_meet
                    case rel => exact ⟨by rw [F1.out]; first | rfl | (congr 1; exact decide_eq_false (show ¬ (0 < m) by omega)) | (congr 1; exact decide_eq_false (show ¬ ((0 : Int) < m) by omega)), by (repeat' (first | exact Below.refl _ _ | assumption | refine b_alloc ?_ _ | refine b_over ?_ _ | refine b_drew ?_ | refine b_call ?_ (by assumption)))⟩
                · have F1 : Hid (q2 = false) := Lib.hid (by rw [HQ2.out]; simp [h15])
                  have n15 : (iop == 15) = false := beq_false_of_ne h15
                  clear h15
                  go_wp2_with fail
                  refine (HSM.out _ (by rw [E9.out, show st.length - m = 0 by have := E2.out; omega]; exact readI_empty _ _ _ (by have := E6.out; omega))).mono ?_
                  rintro e w2 ⟨rfl, hb2⟩
                  obtain ⟨⟨y0, y1, y2, y3⟩, ⟨z0, z1, z2, z3⟩, x0, x1, x2, x3⟩ := HK.out w2 (b_call HBC.out hb2)
                  obtain ⟨g0, g1⟩ := HZ.out w2 (b_call HBC.out hb2)
                  go_wp2_with fail
                  go_meet
                  case rel => exact ⟨by rw [F1.out]; first | done | rfl | (congr 1; exact decide_eq_false (by omega)), by (repeat' (first | exact Below.refl _ _ | assumption | refine b_alloc ?_ _ | refine b_over ?_ _ | refine b_drew ?_ | refine b_call ?_ (by assumption)))⟩
          case inr.inr.inl =>
            clear FIN
            subst e1
            have hsm2 := cap_le e6
            have E2 := Lib.hid e2
            have E3 := Lib.hid e3
            have E4 := Lib.hid e4
            have hz : (sc = m) = True := by rw [e2]; simp
            clear e2 e3 e4
            cases q
            · have F1 : Hid (q2 = true) := Lib.hid (by rw [HQ2.out]; rfl)
              go_wp2_with fail
              refine (HSM.out _ (readI_end E4.out (by have := E2.out; omega) (by have := E3.out; omega))).mono ?_
              rintro e w2 ⟨rfl, hb2⟩
              go_wp2_with fail
              go_meet
              case rel => exact ⟨by rw [F1.out]; first | done | rfl | (congr 1; exact decide_eq_false (by omega)), by (repeat' (first | exact Below.refl _ _ | assumption | refine b_alloc ?_ _ | refine b_over ?_ _ | refine b_drew ?_ | refine b_call ?_ (by assumption)))⟩
            · by_cases h15 : iop = 15
              · have h15b : (iop == 15) = true := beq_iff_eq.2 h15
                have H15 := Lib.hid h15
                clear h15
                by_cases hm1 : 0 < m
                · have F1 : Hid (q2 = true) := Lib.hid (by rw [HQ2.out]; simp [hm1, H15.out])
                  have hm2 : (0 : Int) < m := by omega
                  go_wp2_with fail
                  refine (HSM.out _ (readI_end E4.out (by have := E2.out; omega) (by have := E3.out; omega))).mono ?_
                  rintro e w2 ⟨rfl, hb2⟩
                  obtain ⟨⟨y0, y1, y2, y3⟩, ⟨z0, z1, z2, z3⟩, x0, x1, x2, x3⟩ := HK.out w2 (b_call HBC.out hb2)
                  obtain ⟨g0, g1⟩ := HZ.out w2 (b_call HBC.out hb2)
                  go_wp2_with fail
                  go_meet
                  case rel => exact ⟨by rw [F1.out]; first | done | rfl | (congr 1; exact decide_eq_false (by omega)), by (repeat' (first | exact Below.refl _ _ | assumption | refine b_alloc ?_ _ | refine b_over ?_ _ | refine b_drew ?_ | refine b_call ?_ (by assumption)))⟩
                · have F1 : Hid (q2 = false) := Lib.hid (by rw [HQ2.out]; simp [hm1])
                  have hm2 : ¬ ((0 : Int) < m) := by omega
                  clear hm1
                  go_wp2_with fail
                  refine (HSM.out _ (readI_end E4.out (by have := E2.out; omega) (by have := E3.out; omega))).mono ?_
                  rintro e w2 ⟨rfl, hb2⟩
                  obtain ⟨⟨y0, y1, y2, y3⟩, ⟨z0, z1, z2, z3⟩, x0, x1, x2, x3⟩ := HK.out w2 (b_call HBC.out hb2)
                  obtain ⟨g0, g1⟩ := HZ.out w2 (b_call HBC.out hb2)
                  go_wp2_with fail
                  go_meet
                  case rel => exact ⟨by rw [F1.out]; first | rfl | (congr 1; exact decide_eq_false (show ¬ (0 < m) by omega)) | (congr 1; exact decide_eq_false (show ¬ ((0 : Int) < m) by omega)), by (repeat' (first | exact Below.refl _ _ | assumption | refine b_alloc ?_ _ | refine b_over ?_ _ | refine b_drew ?_ | refine b_call ?_ (by assumption)))⟩
              · have F1 : Hid (q2 = false) := Lib.hid (by rw [HQ2.out]; simp [h15])
                have n15 : (iop == 15) = false := beq_false_of_ne h15
                clear h15
                go_wp2_with fail
                refine (HSM.out _ (readI_end E4.out (by have := E2.out; omega) (by have := E3.out; omega))).mono ?_
                rintro e w2 ⟨rfl, hb2⟩
                obtain ⟨⟨y0, y1, y2, y3⟩, ⟨z0, z1, z2, z3⟩, x0, x1, x2, x3⟩ := HK.out w2 (b_call HBC.out hb2)
                obtain ⟨g0, g1⟩ := HZ.out w2 (b_call HBC.out hb2)
                go_wp2_with fail
                go_meet
                case rel => exact ⟨by rw [F1.out]; first | done | rfl | (congr 1; exact decide_eq_false (by omega)), by (repeat' (first | exact Below.refl _ _ | assumption | refine b_alloc ?_ _ | refine b_over ?_ _ | refine b_drew ?_ | refine b_call ?_ (by assumption)))⟩
          case inr.inr.inr =>
            clear FIN
            subst e1
            have hsm2 := cap_le e4
            have E6 := Lib.hid e6
            clear e6
            cases q
            · have F1 : Hid (q2 = true) := Lib.hid (by rw [HQ2.out]; rfl)
              go_wp2_with fail
              refine (HSM.out _ (E6.out _ (by (repeat' (first | exact Below.refl _ _ | assumption | refine b_alloc ?_ _ | refine b_over ?_ _ | refine b_drew ?_ | refine b_call ?_ (by assumption)))))).mono ?_
              rintro e w2 ⟨rfl, hb2⟩
              go_wp2_with fail
              go_meet
              case rel => exact ⟨by rw [F1.out]; first | done | rfl | (congr 1; exact decide_eq_false (by omega)), by (repeat' (first | exact Below.refl _ _ | assumption | refine b_alloc ?_ _ | refine b_over ?_ _ | refine b_drew ?_ | refine b_call ?_ (by assumption)))⟩
            · by_cases h15 : iop = 15
              · have h15b : (iop == 15) = true := beq_iff_eq.2 h15
                have H15 := Lib.hid h15
                clear h15
                by_cases hm1 : 0 < m
                · have F1 : Hid (q2 = true) := Lib.hid (by rw [HQ2.out]; simp [hm1, H15.out])
                  have hm2 : (0 : Int) < m := by omega
                  go_wp2_with fail
                  refine (HSM.out _ (E6.out _ (by (repeat' (first | exact Below.refl _ _ | assumption | refine b_alloc ?_ _ | refine b_over ?_ _ | refine b_drew ?_ | refine b_call ?_ (by assumption)))))).mono ?_
                  rintro e w2 ⟨rfl, hb2⟩
                  obtain ⟨⟨y0, y1, y2, y3⟩, ⟨z0, z1, z2, z3⟩, x0, x1, x2, x3⟩ := HK.out w2 (b_call HBC.out hb2)
                  obtain ⟨g0, g1⟩ := HZ.out w2 (b_call HBC.out hb2)
                  go_wp2_with fail
                  go_meet
                  case rel => exact ⟨by rw [F1.out]; first | done | rfl | (congr 1; exact decide_eq_false (by omega)), by (repeat' (first | exact Below.refl _ _ | assumption | refine b_alloc ?_ _ | refine b_over ?_ _ | refine b_drew ?_ | refine b_call ?_ (by assumption)))⟩
                · have F1 : Hid (q2 = false) := Lib.hid (by rw [HQ2.out]; simp [hm1])
                  have hm2 : ¬ ((0 : Int) < m) := by omega
                  clear hm1
                  go_wp2_with fail
                  refine (HSM.out _ (E6.out _ (by (repeat' (first | exact Below.refl _ _ | assumption | refine b_alloc ?_ _ | refine b_over ?_ _ | refine b_drew ?_ | refine b_call ?_ (by assumption)))))).mono ?_
                  rintro e w2 ⟨rfl, hb2⟩
                  obtain ⟨⟨y0, y1, y2, y3⟩, ⟨z0, z1, z2, z3⟩, x0, x1, x2, x3⟩ := HK.out w2 (b_call HBC.out hb2)
                  obtain ⟨g0, g1⟩ := HZ.out w2 (b_call HBC.out hb2)
                  go_wp2_with fail
                  go_meet
                  case rel => exact ⟨by rw [F1.out]; first | rfl | (congr 1; exact decide_eq_false (show ¬ (0 < m) by omega)) | (congr 1; exact decide_eq_false (show ¬ ((0 : Int) < m) by omega)), by (repeat' (first | exact Below.refl _ _ | assumption | refine b_alloc ?_ _ | refine b_over ?_ _ | refine b_drew ?_ | refine b_call ?_ (by assumption)))⟩
              · have F1 : Hid (q2 = false) := Lib.hid (by rw [HQ2.out]; simp [h15])
                have n15 : (iop == 15) = false := beq_false_of_ne h15
                clear h15
                go_wp2_with fail
                refine (HSM.out _ (E6.out _ (by (repeat' (first | exact Below.refl _ _ | assumption | refine b_alloc ?_ _ | refine b_over ?_ _ | refine b_drew ?_ | refine b_call ?_ (by assumption)))))).mono ?_
                rintro e w2 ⟨rfl, hb2⟩
                obtain ⟨⟨y0, y1, y2, y3⟩, ⟨z0, z1, z2, z3⟩, x0, x1, x2, x3⟩ := HK.out w2 (b_call HBC.out hb2)
                obtain ⟨g0, g1⟩ := HZ.out w2 (b_call HBC.out hb2)
                go_wp2_with fail
                go_meet
                case rel => exact ⟨by rw [F1.out]; first | done | rfl | (congr 1; exact decide_eq_false (by omega)), by (repeat' (first | exact Below.refl _ _ | assumption | refine b_alloc ?_ _ | refine b_over ?_ _ | refine b_drew ?_ | refine b_call ?_ (by assumption)))⟩
        case rest =>
          obtain ⟨rfl, hbd⟩ := hcut
          have HBD := Lib.hid (b_call HBC.out hbd)
          have HB03 := Lib.hid (b_call HB02.out hbd)
          have HRP3 := Lib.hid (readI_below HRP2.out hbd)
          have HST3 := Lib.hid (readI_below HST2.out hbd)
          clear hbd HSM
          have hQ2 : (st.drop m ≠ D.t ∨ (iop = 15 ∧ 0 < m)) ↔ q2 = true := by
            rw [HQ2.out, HQ.out]
            by_cases e1 : st.drop m = D.t <;> simp [e1]
          have HEE2 : Hid (E = if q2 = true then bad 2 else if 16 < m + D.p.length then bad 3 else if (waysI ⟨iop, ix, ia, ib⟩ k).any (outB f) = true then bad 1 else if (waysI ⟨iop, ix, ia, ib⟩ k).any (backB f k) = true then bad 6 else ⟨st.take m ++ D.p, waysI ⟨iop, ix, ia, ib⟩ k, 0⟩) := Lib.hid (by
            rw [HEE.out]; simp only [hQ2])
          clear hQ2 HEE HQ2 HQ
          obtain ⟨W3, hW3⟩ : ∃ W3, W3 = wc := ⟨_, rfl⟩
          subst hW3
          cases q2
          case true =>
            have EE : Hid (E = bad 2) := Lib.hid (by rw [HEE2.out]; rfl)
            go_wp2_with fail
            go_ret3
            show RetDS w _ _ _
            rw [EE.out]
            exact ⟨none, 0, none, 0, rfl, readI_nil _, readI_nil _, HB03.out, Or.inl rfl⟩
          case false =>
            by_cases h16 : 16 < m + D.p.length
            · have EE : Hid (E = bad 3) := Lib.hid (by rw [HEE2.out, if_neg (by simp), if_pos h16])
              have hp2 : (D.p.length : Int) ≤ 2 := by omega
              have h17 : (16 : Int) < m + D.p.length := by omega
              clear h16
              go_wp2_with fail
              go_ret3
              show RetDS w _ _ _
              rw [EE.out]
              exact ⟨none, 0, none, 0, rfl, readI_nil _, readI_nil _, HB03.out, Or.inl rfl⟩
            · have HEE3 : Hid (E = if (waysI ⟨iop, ix, ia, ib⟩ k).any (outB f) = true then bad 1 else if (waysI ⟨iop, ix, ia, ib⟩ k).any (backB f k) = true then bad 6 else ⟨st.take m ++ D.p, waysI ⟨iop, ix, ia, ib⟩ k, 0⟩) := Lib.hid (by rw [HEE2.out, if_neg (by simp), if_neg h16])
              have hp2 : (D.p.length : Int) ≤ 2 := by omega
              have h17 : ¬ ((16 : Int) < m + D.p.length) := by omega
              have HPL : Hid (m + D.p.length ≤ 16) := by show _ ≤ _; omega
              clear h16 HEE2
              obtain ⟨⟨y0, y1, y2, y3⟩, ⟨z0, z1, z2, z3⟩, x0, x1, x2, x3⟩ := HK.out W3 HBD.out
              obtain ⟨g0, g1⟩ := HZ.out W3 HBD.out
              have HWY := Lib.hid (rways_any iop ix ia ib k (by have := HK2.out; have := HHK.out; omega) W3)
              obtain ⟨on, hon⟩ : ∃ on, on = waysI ⟨iop, ix, ia, ib⟩ k := ⟨_, rfl⟩
              rw [← hon] at HWY HEE3 HW2
              clear hon
              go_wp2_with fail
              refine HWY.out.mono ?_
              rintro e w4 ⟨oa, oc, rfl, hro, hb4⟩
              have HRO := Lib.hid hro
              have HB4 := Lib.hid (b_call HBD.out hb4)
              have HB04 := Lib.hid (b_call HB03.out hb4)
              have HRP4 := Lib.hid (readI_below HRP3.out hb4)
              have HST4 := Lib.hid (readI_below HST3.out hb4)
              have hon2 : (on.length : Int) ≤ 2 := by have := HW2.out.1; omega
              have hoc : (on.length : Int) ≤ oc := by have := (int_len (s := ⟨oa, on.length, oc⟩) hro).2.1; simp only at this; omega
              have hoc2 : (oc : Int) ≤ 9223372036854775807 := by have := (int_len (s := ⟨oa, on.length, oc⟩) hro).2.2; simp only at this; omega
              clear hro hb4 y0 y1 y2 y3 z0 z1 z2 z3 x0 x1 x2 x3 HWY
              obtain ⟨⟨y0, y1, y2, y3⟩, ⟨z0, z1, z2, z3⟩, x0, x1, x2, x3⟩ := HK.out w4 HB4.out
              obtain ⟨g0, g1⟩ := HZ.out w4 HB4.out
              go_wp2_with fail
              go_loopw [78] (fun i wr => ∃ j : Nat, j ≤ on.length ∧ i = .int .i64 j ∧ w4 = wr ∧ Hid ((on.take j).any (outB f) = false)) (fun i _ => on.length - (intOf i).toNat)
              case atStart => exact ⟨0, Nat.zero_le _, rfl, rfl, rfl⟩
              case round =>
                obtain ⟨j, hj, rfl, rfl, hp⟩ := hrel
                have j0 : (0 : Int) ≤ j := by omega
                by_cases hlt : j < on.length
                · obtain ⟨bl, off, cp, e1, r1, r2, hbl, r4⟩ := readI_pos HRO.out (by omega)
                  injection e1 with e1 _ e3
                  rw [e1]
                  have j1 : (j : Int) < on.length := by omega
                  have hcx := r4 j hlt
                  rw [List.getD_eq_getElem?_getD, List.getElem?_eq_getElem hlt, Option.getD_some] at hcx
                  have HF : Hid (outB f on[j] = true → on.any (outB f) = true) := fun z => List.any_eq_true.2 ⟨on[j], List.getElem_mem hlt, z⟩
                  have HT : Hid (outB f on[j] = false → (on.take (j + 1)).any (outB f) = false) := fun z => by
                    rw [List.take_succ_eq_append_getElem hlt, List.any_append, hp.out]; simp [z]
                  generalize on[j] = x at *
                  clear r4 e1 e3
                  by_cases hx : (f.code.length : Int) ≤ x
                  · have EE : Hid (E = bad 1) := Lib.hid (by rw [HEE3.out, if_pos (HF.out (decide_eq_true hx))])
                    go_wp2_with fail
                    go_ret3
                    show RetDS w _ _ _
                    rw [EE.out]
                    exact ⟨none, 0, none, 0, rfl, readI_nil _, readI_nil _, HB04.out, Or.inl rfl⟩
                  · have H2 := Lib.hid (HT.out (decide_eq_false hx))
                    have hx2 : x < f.code.length := by omega
                    clear hx
                    go_wp2_with fail
                    go_roundw
                    case rel => exact ⟨j + 1, by omega, by first | rfl | trivial | go_num, by first | trivial | rfl, H2.out⟩
                    case measure => simp [intOf]; omega
                · have hall : on.any (outB f) = false := by have z := hp.out; rw [List.take_of_length_le (by omega)] at z; exact z
                  have HALL := Lib.hid hall
                  have j1 : ¬ ((j : Int) < on.length) := by omega
                  have HEE4 : Hid (E = if on.any (backB f k) = true then bad 6 else ⟨st.take m ++ D.p, on, 0⟩) := Lib.hid (by rw [HEE3.out, hall]; rfl)
                  clear hall hp HEE3
                  go_wp2_with fail
                  go_loopw [90] (fun i wr => ∃ j : Nat, j ≤ on.length ∧ i = .int .i64 j ∧ w4 = wr ∧ Hid ((on.take j).any (backB f k) = false)) (fun i _ => on.length - (intOf i).toNat)
                  case atStart => exact ⟨0, Nat.zero_le _, rfl, rfl, rfl⟩
                  case round =>
                    obtain ⟨j, hj, rfl, rfl, hp⟩ := hrel
                    have j0 : (0 : Int) ≤ j := by omega
                    by_cases hlt : j < on.length
                    · obtain ⟨bl, off, cp, e1, r1, r2, hbl, r4⟩ := readI_pos HRO.out (by omega)
                      injection e1 with e1 _ e3
                      rw [e1]
                      have j1 : (j : Int) < on.length := by omega
                      have hcx := r4 j hlt
                      rw [List.getD_eq_getElem?_getD, List.getElem?_eq_getElem hlt, Option.getD_some] at hcx
                      have HF : Hid (backB f k on[j] = true → on.any (backB f k) = true) := fun z => List.any_eq_true.2 ⟨on[j], List.getElem_mem hlt, z⟩
                      have HT : Hid (backB f k on[j] = false → (on.take (j + 1)).any (backB f k) = false) := fun z => by
                        rw [List.take_succ_eq_append_getElem hlt, List.any_append, hp.out]; simp [z]
                      have hx0 : 0 ≤ on[j] := HW2.out.2 _ (List.getElem_mem hlt)
                      generalize on[j] = x at *
                      clear r4 e1 e3
                      by_cases hx : x ≤ k
                      · obtain ⟨y, rfl⟩ : ∃ y : Nat, x = y := ⟨x.toNat, by omega⟩
                        have hy : y < f.code.length := by omega
                        have hcode := (in_cells HC4.out y hy).1
                        have hcode2 := ((bcell HB04.out).1 _ _ HCB.out).trans hcode
                        have hBK : Hid (backB f k y = (f.code[y].op != 16)) := Lib.hid (by
                          unfold backB codeAt
                          rw [decide_eq_true hx, Bool.true_and, show ((y : Int).toNat) = y from rfl, List.getD_eq_getElem?_getD, List.getElem?_eq_getElem hy, Option.getD_some]
                          by_cases z : f.code[y].op = 16
                          · rw [z]; rfl
                          · rw [decide_eq_true z, (bne_iff_ne).2 z])
                        have y0' : (0 : Int) ≤ y := by omega
                        have y1' : (y : Int) < f.code.length := by omega
                        have y2' : (y : Int) < cc := by omega
                        clear hcode
                        generalize f.code[y].op = z at *
                        by_cases hz : z = 16
                        · have hzb : (z != 16) = false := by rw [hz]; rfl
                          have H2 := Lib.hid (HT.out (hBK.out.trans hzb))
                          clear hz
                          go_wp2_with fail
                          go_roundw
                          case rel => exact ⟨j + 1, by omega, by first | rfl | trivial | go_num, by first | trivial | rfl, H2.out⟩
                          case measure => simp [intOf]; omega
                        · have hzb : (z != 16) = true := bne_iff_ne.2 hz
                          have EE : Hid (E = bad 6) := Lib.hid (by rw [HEE4.out, if_pos (HF.out (hBK.out.trans hzb))])
                          clear hz
                          go_wp2_with fail
                          go_ret3
                          show RetDS w _ _ _
                          rw [EE.out]
                          exact ⟨none, 0, none, 0, rfl, readI_nil _, readI_nil _, HB04.out, Or.inl rfl⟩
                      · have H2 := Lib.hid (HT.out (by unfold backB; rw [decide_eq_false hx]; rfl))
                        go_wp2_with fail
                        go_roundw
                        case rel => exact ⟨j + 1, by omega, by first | rfl | trivial | go_num, by first | trivial | rfl, H2.out⟩
                        case measure => simp [intOf]; omega
                    · have hall : on.any (backB f k) = false := by have z := hp.out; rw [List.take_of_length_le (by omega)] at z; exact z
                      have j1 : ¬ ((j : Int) < on.length) := by omega
                      obtain ⟨LL, hLL⟩ : ∃ LL, LL = st.take m ++ D.p := ⟨_, rfl⟩
                      have EE : Hid (E = ⟨LL, on, 0⟩) := Lib.hid (by rw [HEE4.out, hall, hLL]; rfl)
                      have HLL := Lib.hid hLL
                      clear hLL
                      have HTK : Hid (ReadI w4 (.slice sa m sc) (st.take m)) := Lib.hid (readI_take HST4.out HMN.out)
                      have HTL : Hid ((st.take m).length = m) := Lib.hid (by rw [List.length_take]; have := HMN.out; omega)
                      clear hall hp
                      go_wp2_with (at_builtin; first | (refine appendI rfl _ _ rfl w4.heap.size _ [] rfl (own_empty (Nat.le_refl _)) _ (st.take m) rfl (readI_below HTK.out (b_alloc (Below.refl _ _) _)) ?c1 ?c2 ?_; (case c1 => (have := HTL.out; have := HPL.out; simp only [List.length_nil]; omega)); (case c2 => (simp)); intro v5 w5 own5 hg5; rw [List.nil_append] at own5; obtain ⟨a5, k5, rfl⟩ := readI_len (ownI_read own5); rw [HTL.out] at own5 ⊢; have OW5 := Lib.hid own5; have HB5 := Lib.hid (b_own (b_alloc (Below.refl w4.heap.size w4) _) (own_empty (Nat.le_refl _)) hg5); clear own5 hg5) | (refine appendI rfl _ _ rfl w4.heap.size _ (st.take m) rfl OW5.out _ D.p rfl (readI_below HRP4.out HB5.out) ?c1 ?c2 ?_; (case c1 => (have := HTL.out; have := HPL.out; omega)); (case c2 => (exact HB5.out.size)); intro v6 w6 own6 hg6; rw [← HLL.out] at own6; obtain ⟨a6, k6, rfl⟩ := readI_len (ownI_read own6); have OW6 := Lib.hid own6; have HB6 := Lib.hid (b_own HB5.out OW5.out hg6); clear own6 hg6))
                      go_ret3
                      show RetDS w _ _ _
                      rw [EE.out]
                      exact ⟨a6, k6, oa, oc, rfl, ownI_read OW6.out, readI_below HRO.out HB6.out, b_call HB04.out HB6.out, ownI_slOk OW6.out⟩
end
end Go.Proofs.Ytdmidnmciaediaa
