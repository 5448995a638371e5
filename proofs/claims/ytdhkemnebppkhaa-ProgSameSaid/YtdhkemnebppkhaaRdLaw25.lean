/- Layer 25: a program's bytes are read as it was; what is read has these very bytes. No conditions beside those stated. -/
import Derived.Test.YtdhkemnebppkhaaRdQ25
import Derived.Test.YtdhkemnebppkhaaInstrBytesLaw
namespace Go.Proofs.Ytdhkemnebppkhaa
open Go.RowKit
set_option linter.unusedVariables false
set_option linter.unusedSimpArgs false
theorem byteAt_zero (b g : Int) (h : 0 ≤ b ∧ b < 256) : byteAt (b + 256 * g) 0 = b := by unfold byteAt; simp; omega
theorem byteAt_succ (b g : Int) (k : Nat) (h : 0 ≤ b ∧ b < 256) : byteAt (b + 256 * g) (k + 1) = byteAt g k := by
  unfold byteAt
  have e : (256 : Int) ^ (k + 1) = 256 * 256 ^ k := by rw [Int.pow_succ, Int.mul_comm]
  rw [e, ← Int.ediv_ediv_of_nonneg (by decide)]
  have : (b + 256 * g) / 256 = g := by omega
  rw [this]
theorem putL_getL : ∀ (ys : List Int), IsBytes ys → putL ys.length (getL ys) = ys
  | [], _ => rfl
  | b :: l, h => by
    have hb := h b (List.mem_cons_self ..)
    have ih := putL_getL l (fun z hz => h z (List.mem_cons_of_mem _ hz))
    unfold putL at ih ⊢
    rw [List.length_cons, List.range_succ_eq_map, List.map_cons, List.map_map]
    show byteAt (b + 256 * getL l) 0 :: _ = _
    rw [byteAt_zero _ _ hb]
    congr 1
    refine (List.map_congr_left (fun k _ => ?_)).trans ih
    exact byteAt_succ _ _ k hb
theorem putL_getL' {ys : List Int} {n : Nat} (h : IsBytes ys) (hn : ys.length = n) : putL n (getL ys) = ys := by rw [← hn]; exact putL_getL ys h
theorem bytIn_back {b : List Int} (hb : IsBytes b) (hok : okR b = true) : bytIn (insR b) ++ b.drop (szR (opR b)) = b ∧ GoodIn (insR b) := by
  obtain ⟨z1, z2⟩ := okR_len hok
  cases b with
  | nil => simp only [List.length_nil] at z2; omega
  | cons x t =>
    have hx := hb x (List.mem_cons_self ..)
    have ht : IsBytes t := fun z hz => hb z (List.mem_cons_of_mem _ hz)
    have eo : opR (x :: t) = x := rfl
    rw [eo] at z2 ⊢
    unfold okR at hok
    rw [eo] at hok
    simp only [Bool.and_eq_true] at hok
    have hsh := hok.1.2
    have hc : ∀ n, cutL (x :: t) 1 (n + 1) = t.take n := fun n => by unfold cutL; simp
    have h35 : cutL (x :: t) 3 5 = (t.drop 2).take 2 := by unfold cutL; simp
    unfold bytIn insR GoodIn
    unfold bytesI xR aR bR
    simp only [eo]
    have hm : x % 256 = x := by omega
    rw [hm]
    simp only [List.length_cons] at z2
    rcases kinds x with ⟨k1, k2, k3⟩ | ⟨k1, k2, k3⟩ | ⟨k1, k2, k3⟩ | ⟨k1, k2, k3⟩ | ⟨k1, k2, k3⟩
    · rw [hsh] at k1; cases k1
    · have es : szR x = 1 := by unfold szR; rw [k2, k3]; rfl
      rw [es, k2, k3]
      simp
    · have es : szR x = 9 := by unfold szR; rw [k2, k3]; rfl
      rw [es] at z2 ⊢
      rw [k2, k3, show (9 : Nat) = 8 + 1 from rfl, hc 8]
      have e8 : (t.take 8).take 8 = t.take 8 := by rw [List.take_take]; simp
      have hl : (t.take 8).length = 8 := by rw [List.length_take]; omega
      have hp := putL_getL' (isBytes_take ht 8) hl
      have hbd := getL_lt _ (isBytes_take ht 8)
      rw [hl] at hbd
      simp only [if_true, e8, hp]
      refine ⟨by simp, hbd.1, ?_⟩
      have := hbd.2
      omega
    · have es : szR x = 3 := by unfold szR; rw [k2, k3]; rfl
      rw [es] at z2 ⊢
      rw [k2, k3, show (3 : Nat) = 2 + 1 from rfl, hc 2]
      have e8 : (t.take 2).take 8 = t.take 2 := by rw [List.take_take]; simp
      have hl : (t.take 2).length = 2 := by rw [List.length_take]; omega
      have hp := putL_getL' (isBytes_take ht 2) hl
      simp [e8, hp]
    · have es : szR x = 5 := by unfold szR; rw [k2, k3]; rfl
      rw [es] at z2 ⊢
      rw [k2, k3, show (3 : Nat) = 2 + 1 from rfl, hc 2, h35]
      have e8 : (t.take 2).take 8 = t.take 2 := by rw [List.take_take]; simp
      have e82 : ((t.drop 2).take 2).take 8 = (t.drop 2).take 2 := by rw [List.take_take]; simp
      have hl : (t.take 2).length = 2 := by rw [List.length_take]; omega
      have hl2 : ((t.drop 2).take 2).length = 2 := by rw [List.length_take, List.length_drop]; omega
      have hp := putL_getL' (isBytes_take ht 2) hl
      have hp2 := putL_getL' (isBytes_take (isBytes_drop ht 2) 2) hl2
      simp [e8, e82, hp, hp2]
      have e1 : (t.drop 2).take 2 ++ t.drop 4 = t.drop 2 := by
        have := List.take_append_drop 2 (t.drop 2)
        rwa [List.drop_drop] at this
      rw [e1, List.take_append_drop]
theorem lstB_eq {l : List Int} (hl : l.length < 256) (hk : IsBytes l) : lstB l = (l.length : Int) :: l := by
  unfold lstB
  have e : l.map (· % 256) = l := by
    conv => rhs; rw [← List.map_id l]
    apply List.map_congr_left
    intro x hx
    have := hk x hx
    simp only [id]; omega
  rw [e]
  simp; omega
theorem kind_bytes {l : List Int} (h : ∀ x ∈ l, 0 ≤ x ∧ x ≤ 3) : IsBytes l := fun x hx => by have := h x hx; omega
theorem rdLst_lstB {l : List Int} (hl : l.length < 256) (hk : IsBytes l) (R : List Int) : rdLst (lstB l ++ R) = some (l, R) := by
  rw [lstB_eq hl hk]
  show (if ((l.length : Int)).toNat ≤ (l ++ R).length then some ((l ++ R).take ((l.length : Int)).toNat, (l ++ R).drop ((l.length : Int)).toNat) else none) = _
  rw [Int.toNat_natCast, if_pos (by rw [List.length_append]; omega)]
  simp
theorem rdLst_back {b l r : List Int} (h : rdLst b = some (l, r)) (hb : IsBytes b) : lstB l ++ r = b := by
  cases b with
  | nil => cases h
  | cons x t =>
    have hx := hb x (List.mem_cons_self ..)
    unfold rdLst at h
    simp only at h
    split at h
    · rename_i hq
      injection h with h; injection h with h1 h2
      subst h1; subst h2
      have ht : IsBytes t := fun z hz => hb z (List.mem_cons_of_mem _ hz)
      have hl : (t.take x.toNat).length = x.toNat := by rw [List.length_take]; omega
      rw [lstB_eq (by rw [hl]; omega) (isBytes_take ht _), hl]
      simp only [List.cons_append, List.take_append_drop, List.cons.injEq, and_true]
      omega
    · cases h
theorem rdCode_bytes : ∀ (c : List In4) (R : List Int), (∀ i ∈ c, mayI i = true ∧ GoodIn i) → rdCode c.length (c.flatMap bytIn ++ R) = some (c, R)
  | [], R, _ => rfl
  | i :: l, R, h => by
    obtain ⟨h1, h2⟩ := h i (List.mem_cons_self ..)
    have ih := rdCode_bytes l R (fun z hz => h z (List.mem_cons_of_mem _ hz))
    obtain ⟨iop, ix, ia, ib⟩ := i
    obtain ⟨q1, q2, q3, q4, q5⟩ := bytes_back (show mayB iop ix ia ib = true from h1) h2.1 h2.2 (l.flatMap bytIn ++ R)
    rw [List.flatMap_cons, List.append_assoc, List.length_cons]
    unfold rdCode
    have e : bytIn ⟨iop, ix, ia, ib⟩ = bytesI iop ix ia ib := rfl
    rw [e, if_pos q1]
    have e2 : (bytesI iop ix ia ib ++ (l.flatMap bytIn ++ R)).drop (szR (opR (bytesI iop ix ia ib ++ (l.flatMap bytIn ++ R)))) = l.flatMap bytIn ++ R := by
      rw [q2, ← bytesI_sz iop ix ia ib, List.drop_left]
    rw [e2, ih]
    unfold insR
    rw [q2, q3, q4, q5]
theorem rdFunc_bytes {f : FnM} (ok : OkF f) (gd : ∀ i ∈ f.code, GoodIn i) (R : List Int) : rdFunc (bytF f ++ R) = some (f, R) := by
  obtain ⟨ps, ls, r, code⟩ := f
  have hp : ps.length ≤ 8 := ok.p
  have hl : ls.length ≤ 8 := ok.l
  have hr : 0 ≤ r ∧ r ≤ 3 := ok.r
  have hc : code.length ≤ 96 := ok.c2
  have e : bytF ⟨ps, ls, r, code⟩ ++ R = lstB ps ++ (lstB ls ++ (r :: ((code.length : Int) :: (code.flatMap bytIn ++ R)))) := by
    unfold bytF
    have e1 : r % 256 = r := by omega
    have e2 : (code.length : Int) % 256 = code.length := by omega
    simp only [e1, e2, List.append_assoc, List.cons_append, List.nil_append]
  rw [e]
  refine rdFunc_5 (rdLst_lstB (l := ps) (by omega) (kind_bytes ok.kp) _) (rdLst_lstB (l := ls) (by omega) (kind_bytes ok.kl) _) ?_
  show rdCode ((code.length : Int)).toNat (code.flatMap bytIn ++ R) = _
  rw [Int.toNat_natCast]
  exact rdCode_bytes code R (fun i hi => ⟨ok.i i hi, gd i hi⟩)
theorem rdFuncs_bytes : ∀ (fs : List FnM) (R : List Int), (∀ f ∈ fs, OkF f ∧ ∀ i ∈ f.code, GoodIn i) → rdFuncs fs.length (fs.flatMap bytF ++ R) = some (fs, R)
  | [], R, _ => rfl
  | f :: l, R, h => by
    obtain ⟨h1, h2⟩ := h f (List.mem_cons_self ..)
    have ih := rdFuncs_bytes l R (fun z hz => h z (List.mem_cons_of_mem _ hz))
    rw [List.flatMap_cons, List.append_assoc, List.length_cons]
    unfold rdFuncs
    rw [rdFunc_bytes h1 h2]
    simp only [ih]
theorem rdProg_bytes {P : PrM} (hm : mayP P = true) (gd : GoodP P) : rdProg (bytP P) = some P := by
  have ok := okP_of hm
  obtain ⟨u, gl, m, fs⟩ := P
  have h1 : 0 ≤ m ∧ m ≤ 4 := ok.m
  have h2 : fs.length ≤ 16 := ok.f2
  have h3 : gl.length ≤ 8 := ok.g
  have e : bytP ⟨u, gl, m, fs⟩ = [84, 77, 66, 49] ++ ((if u then 1 else 0) :: (lstB gl ++ (m :: ((fs.length : Int) :: (fs.flatMap bytF ++ []))))) := by
    unfold bytP headP
    have e1 : m % 256 = m := by omega
    have e2 : (fs.length : Int) % 256 = fs.length := by omega
    simp only [e1, e2, List.append_assoc, List.cons_append, List.nil_append, List.append_nil]
  rw [rdProg_mark (by rw [e]; rfl), e]
  show rdT0 ((if u then 1 else 0) :: (lstB gl ++ (m :: ((fs.length : Int) :: (fs.flatMap bytF ++ []))))) = _
  have e3 : rdT0 ((if u then 1 else 0 : Int) :: (lstB gl ++ (m :: ((fs.length : Int) :: (fs.flatMap bytF ++ []))))) = rdBody u (lstB gl ++ (m :: ((fs.length : Int) :: (fs.flatMap bytF ++ [])))) := by
    unfold rdT0
    cases u <;> rfl
  rw [e3, rdBody_some (rdLst_lstB (l := gl) (by omega) (kind_bytes ok.kg) _)]
  show rdT3 u gl m (rdFuncs ((fs.length : Int)).toNat (fs.flatMap bytF ++ [])) = _
  rw [Int.toNat_natCast, rdFuncs_bytes fs [] (fun f hf => And.intro (ok.f f hf) (gd f hf))]
  show rdEnd u gl m fs [] = _
  unfold rdEnd
  rw [hm]; rfl
theorem rdCode_back : ∀ {n : Nat} {b r : List Int} {c : List In4} (_ : rdCode n b = some (c, r)) (_ : IsBytes b), c.flatMap bytIn ++ r = b ∧ ∀ i ∈ c, GoodIn i
  | 0, b, r, c, h, hb => by unfold rdCode at h; injection h with h; injection h with h1 h2; subst h1; subst h2; exact ⟨rfl, fun i hi => by cases hi⟩
  | n + 1, b, r, c, h, hb => by
    unfold rdCode at h
    split at h
    · rename_i hok
      cases hq : rdCode n (b.drop (szR (opR b))) with
      | none => rw [hq] at h; cases h
      | some p =>
        obtain ⟨c', r'⟩ := p
        rw [hq] at h
        injection h with h; injection h with h1 h2; subst h1; subst h2
        obtain ⟨q1, q2⟩ := rdCode_back hq (isBytes_drop hb _)
        obtain ⟨e1, e2⟩ := bytIn_back hb hok
        refine ⟨by rw [List.flatMap_cons, List.append_assoc, q1]; exact e1, fun i hi => ?_⟩
        rcases List.mem_cons.1 hi with rfl | hi
        · exact e2
        · exact q2 i hi
    · cases h
theorem rdFunc_back {b r : List Int} {f : FnM} (h : rdFunc b = some (f, r)) (hb : IsBytes b) : bytF f ++ r = b ∧ (∀ i ∈ f.code, GoodIn i) ∧ IsBytes r := by
  unfold rdFunc at h
  cases h1 : rdLst b with
  | none => rw [h1] at h; cases h
  | some p1 =>
    obtain ⟨ps, b1⟩ := p1
    rw [h1] at h
    simp only at h
    obtain ⟨i1, _, _⟩ := rdLst_rest h1 hb
    cases h2 : rdLst b1 with
    | none => rw [h2] at h; cases h
    | some p2 =>
      obtain ⟨ls, b2⟩ := p2
      rw [h2] at h
      simp only at h
      obtain ⟨i2, _, _⟩ := rdLst_rest h2 i1
      cases b2 with
      | nil => cases h
      | cons x b3 =>
        simp only at h
        have hx := i2 x (List.mem_cons_self ..)
        have i3 : IsBytes b3 := fun z hz => i2 z (List.mem_cons_of_mem _ hz)
        cases h3 : rdCodes b3 with
        | none => rw [h3] at h; cases h
        | some p3 =>
          obtain ⟨c, b4⟩ := p3
          rw [h3] at h
          injection h with h; injection h with e1 e2; subst e1; subst e2
          obtain ⟨i4, _, hc⟩ := rdCodes_rest h3 i3
          cases b3 with
          | nil => cases h3
          | cons n b5 =>
            have hn := i3 n (List.mem_cons_self ..)
            have h3' : rdCode n.toNat b5 = some (c, b4) := h3
            obtain ⟨q1, q2⟩ := rdCode_back h3' (fun z hz => i3 z (List.mem_cons_of_mem _ hz))
            obtain ⟨_, _, q3⟩ := rdCode_rest h3' (fun z hz => i3 z (List.mem_cons_of_mem _ hz))
            refine ⟨?_, q2, i4⟩
            have e := rdLst_back h1 hb
            have e' := rdLst_back h2 i1
            unfold bytF
            have m1 : x % 256 = x := by omega
            have m2 : (c.length : Int) % 256 = n := by omega
            simp only [m1, m2, List.append_assoc, List.cons_append, List.nil_append]
            rw [q1, e', e]
theorem rdFuncs_back : ∀ {n : Nat} {b r : List Int} {fs : List FnM} (_ : rdFuncs n b = some (fs, r)) (_ : IsBytes b), fs.flatMap bytF ++ r = b ∧ (∀ f ∈ fs, ∀ i ∈ f.code, GoodIn i) ∧ fs.length = n
  | 0, b, r, fs, h, hb => by unfold rdFuncs at h; injection h with h; injection h with h1 h2; subst h1; subst h2; exact ⟨rfl, (fun f hf => by cases hf), rfl⟩
  | n + 1, b, r, fs, h, hb => by
    unfold rdFuncs at h
    cases h1 : rdFunc b with
    | none => rw [h1] at h; cases h
    | some p1 =>
      obtain ⟨f, b1⟩ := p1
      rw [h1] at h
      simp only at h
      obtain ⟨e1, e2, e3⟩ := rdFunc_back h1 hb
      cases h2 : rdFuncs n b1 with
      | none => rw [h2] at h; cases h
      | some p2 =>
        obtain ⟨fs', r'⟩ := p2
        rw [h2] at h
        injection h with h; injection h with q1 q2; subst q1; subst q2
        obtain ⟨z1, z2, z3⟩ := rdFuncs_back h2 e3
        refine ⟨by rw [List.flatMap_cons, List.append_assoc, z1]; exact e1, fun g hg => ?_, by rw [List.length_cons, z3]⟩
        rcases List.mem_cons.1 hg with rfl | hg
        · exact e2
        · exact z2 g hg
theorem rdProg_back {b : List Int} {P : PrM} (h : rdProg b = some P) (hb : IsBytes b) : mayP P = true ∧ bytP P = b ∧ GoodP P := by
  by_cases hm : b.take 4 = [84, 77, 66, 49]
  · rw [rdProg_mark hm] at h
    have eb : b = [84, 77, 66, 49] ++ b.drop 4 := by rw [← hm]; exact (List.take_append_drop 4 b).symm
    cases hd : b.drop 4 with
    | nil => rw [hd] at h; cases h
    | cons f r =>
      rw [hd] at h eb
      have hbd := isBytes_drop hb 4
      rw [hd] at hbd
      have hf := hbd f (List.mem_cons_self ..)
      have hbr : IsBytes r := fun z hz => hbd z (List.mem_cons_of_mem _ hz)
      unfold rdT0 at h
      simp only at h
      split at h
      · rename_i hf1
        cases h1 : rdLst r with
        | none => rw [rdBody_none h1] at h; cases h
        | some p1 =>
          obtain ⟨gl, b1⟩ := p1
          rw [rdBody_some h1] at h
          have e1 := rdLst_back h1 hbr
          obtain ⟨i1, _, _⟩ := rdLst_rest h1 hbr
          cases b1 with
          | nil => cases h
          | cons m b2 =>
            have hm2 := i1 m (List.mem_cons_self ..)
            cases b2 with
            | nil => cases h
            | cons n b3 =>
              have hn := i1 n (List.mem_cons_of_mem _ (List.mem_cons_self ..))
              have i3 : IsBytes b3 := fun z hz => i1 z (List.mem_cons_of_mem _ (List.mem_cons_of_mem _ hz))
              have h : rdT3 (f == 1) gl m (rdFuncs n.toNat b3) = some P := h
              cases h3 : rdFuncs n.toNat b3 with
              | none => rw [h3] at h; cases h
              | some p3 =>
                obtain ⟨fs, b4⟩ := p3
                rw [h3] at h
                have h : rdEnd (f == 1) gl m fs b4 = some P := h
                unfold rdEnd at h
                split at h
                · rename_i hq
                  rw [Bool.and_eq_true] at hq
                  injection h with h; subst h
                  have hb4 : b4 = [] := List.isEmpty_iff.1 hq.1
                  subst hb4
                  obtain ⟨z1, z2, z3⟩ := rdFuncs_back h3 i3
                  refine ⟨hq.2, ?_, z2⟩
                  rw [eb]
                  unfold bytP headP
                  have m1 : m % 256 = m := by omega
                  have m2 : (fs.length : Int) % 256 = n := by omega
                  have m3 : (if (f == 1) = true then (1 : Int) else 0) = f := by
                    by_cases q : f = 1
                    · subst q; rfl
                    · rw [if_neg (by simpa using q)]; omega
                  rw [List.append_nil] at z1
                  simp only [m1, m2, m3, List.append_assoc, List.cons_append, List.nil_append]
                  rw [z1, e1]
                · cases h
      · cases h
  · rw [rdProg_nomark hm] at h; cases h
end Go.Proofs.Ytdhkemnebppkhaa
