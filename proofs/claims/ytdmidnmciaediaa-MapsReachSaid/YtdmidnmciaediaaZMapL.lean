/- Layer 27: the plain law: how long the way to the next poll is. No program in sight, no conditions. Layer 27: the contracts of maps.on, far, Reach, Most, Safe; of the document's has, Safe. Conditions: what is asked reads as lists, and is not too great. -/
import Derived.Test.YtdmidnmciaediaaZMap1
import Derived.Test.YtdmidnmciaediaaZMap2
namespace Go.Proofs.Ytdmidnmciaediaa
section
set_option linter.unusedVariables false
set_option linter.unusedSimpArgs false
/-- Where an instruction goes on, till a poll. -/
def onI (x : In4) (k : Nat) : List Int := if x.op = 16 then [] else waysI x k
def mxL (g : Int → Nat) : List Int → Nat
  | [] => 0
  | t :: l => max (g t) (mxL g l)
theorem mxL_snoc (g : Int → Nat) : ∀ (l : List Int) (t : Int), mxL g (l ++ [t]) = max (mxL g l) (g t)
  | [], t => by simp [mxL]
  | a :: l, t => by simp only [List.cons_append, mxL, mxL_snoc g l t]; omega
theorem mxL_le {g : Int → Nat} {b : Nat} : ∀ (l : List Int), (∀ t ∈ l, g t ≤ b) → mxL g l ≤ b
  | [], _ => Nat.zero_le _
  | a :: l, h => by
    have h1 := h a (List.mem_cons_self ..)
    have h2 := mxL_le l (fun t ht => h t (List.mem_cons_of_mem _ ht))
    simp only [mxL]; omega
theorem mxL_ge {g : Int → Nat} : ∀ (l : List Int) (t : Int), t ∈ l → g t ≤ mxL g l
  | a :: l, t, h => by
    simp only [mxL]
    rcases List.mem_cons.1 h with rfl | h
    · omega
    · have := mxL_ge (g := g) l t h; omega
theorem mxL_congr {g g' : Int → Nat} : ∀ (l : List Int), (∀ t ∈ l, g t = g' t) → mxL g l = mxL g' l
  | [], _ => rfl
  | a :: l, h => by simp only [mxL]; rw [h a (List.mem_cons_self ..), mxL_congr l (fun t ht => h t (List.mem_cons_of_mem _ ht))]
theorem mxL_succ {g g' : Int → Nat} : ∀ (l : List Int), l ≠ [] → (∀ t ∈ l, g t = 1 + g' t) → mxL g l = 1 + mxL g' l
  | [], h, _ => absurd rfl h
  | [a], _, h => by simp only [mxL]; rw [h a (List.mem_cons_self ..)]; omega
  | a :: b :: l, _, h => by
    have := mxL_succ (b :: l) (by simp) (fun t ht => h t (List.mem_cons_of_mem _ ht))
    rw [mxL, h a (List.mem_cons_self ..), this, mxL.eq_2 g' a (b :: l)]; omega
def zIn : In4 := ⟨0, 0, 0, 0⟩
def gateH (N : Nat) (h : Nat → Nat) (k : Nat) (t : Int) : Nat := if (k : Int) < t ∧ t < N then h t.toNat else 0
def hN (cd : List In4) (m : Nat → Bool) : Nat → Nat → Nat
  | 0, _ => 0
  | f + 1, k => if m k = true ∧ k < cd.length then 1 + mxL (gateH cd.length (hN cd m f) k) (onI (cd.getD k zIn) k) else 0
theorem hN_same (cd : List In4) (m : Nat → Bool) : ∀ (f g k : Nat), cd.length ≤ k + f → cd.length ≤ k + g → hN cd m f k = hN cd m g k
  | 0, 0, _, _, _ => rfl
  | 0, g + 1, k, h, _ => by
    rw [hN, hN, if_neg (by omega)]
  | f + 1, 0, k, _, h => by
    rw [hN, hN, if_neg (by omega)]
  | f + 1, g + 1, k, h, h' => by
    rw [hN, hN]
    congr 2
    refine mxL_congr _ (fun t _ => ?_)
    unfold gateH
    split
    · exact hN_same cd m f g t.toNat (by omega) (by omega)
    · rfl
def hH (cd : List In4) (m : Nat → Bool) (k : Nat) : Nat := hN cd m cd.length k
theorem hH_eq (cd : List In4) (m : Nat → Bool) (k : Nat) : hH cd m k = if m k = true ∧ k < cd.length then 1 + mxL (gateH cd.length (hH cd m) k) (onI (cd.getD k zIn) k) else 0 := by
  unfold hH
  rw [hN_same cd m cd.length (cd.length + 1) k (by omega) (by omega), hN]
theorem hH_no {cd : List In4} {m : Nat → Bool} {k : Nat} (h : ¬ (m k = true ∧ k < cd.length)) : hH cd m k = 0 := by rw [hH_eq, if_neg h]
theorem hH_yes {cd : List In4} {m : Nat → Bool} {k : Nat} (h : m k = true) (hk : k < cd.length) : hH cd m k = 1 + mxL (gateH cd.length (hH cd m) k) (onI (cd.getD k zIn) k) := by rw [hH_eq, if_pos ⟨h, hk⟩]
theorem hH_le (cd : List In4) (m : Nat → Bool) : ∀ (d k : Nat), cd.length - k ≤ d → hH cd m k ≤ cd.length - k
  | 0, k, h => by rw [hH_no (by omega)]; exact Nat.zero_le _
  | d + 1, k, h => by
    by_cases q : m k = true ∧ k < cd.length
    · rw [hH_yes q.1 q.2]
      have : mxL (gateH cd.length (hH cd m) k) (onI (cd.getD k zIn) k) ≤ cd.length - k - 1 := mxL_le _ (fun t _ => by
        unfold gateH
        split
        · rename_i z
          have := hH_le cd m d t.toNat (by omega)
          omega
        · exact Nat.zero_le _)
      omega
    · rw [hH_no q]; exact Nat.zero_le _
theorem hH_lt {cd : List In4} {m : Nat → Bool} {k : Nat} (h : m k = true) (hk : k < cd.length) {t : Int} (ht : (k : Int) < t) (hm : t ∈ onI (cd.getD k zIn) k) : hH cd m t.toNat < hH cd m k := by
  rw [hH_yes h hk]
  have := mxL_ge (g := gateH cd.length (hH cd m) k) _ t hm
  unfold gateH at this
  split at this
  · show _ < 1 + mxL (gateH cd.length (hH cd m) k) _
    unfold gateH
    omega
  · rw [hH_no (k := t.toNat) (by omega)]; omega
/-- Of a function of a program with facts. -/
def codeN (P : PrM) (i : Nat) : List In4 := (P.fs.getD i fzM).code
def hP (P : PrM) (Fx : FxM) (i k : Nat) : Nat := hH (codeN P i) (fun q => metB P Fx i q) k
def reachM (P : PrM) (Fx : FxM) (f a : Int) : Int := if metB P Fx f a = true then hP P Fx f.toNat a.toNat else 0
theorem met_form {P : PrM} {Fx : FxM} {f a : Int} (h : metB P Fx f a = true) : 0 ≤ f ∧ f < P.fs.length ∧ f < Fx.length ∧ 0 ≤ a ∧ a < (codeN P f.toNat).length ∧ a < (Fx.getD f.toNat []).length := by
  unfold metB at h
  split at h
  · assumption
  · cases h
theorem hP_no {P : PrM} {Fx : FxM} {i k : Nat} (h : metB P Fx i k = false) : hP P Fx i k = 0 := hH_no (by rw [h]; simp)
theorem hP_le (P : PrM) (Fx : FxM) (i k : Nat) : hP P Fx i k ≤ (codeN P i).length - k := hH_le _ _ _ k (Nat.le_refl _)
theorem hP_yes {P : PrM} {Fx : FxM} {i k : Nat} (h : metB P Fx i k = true) : hP P Fx i k = 1 + mxL (gateH (codeN P i).length (hP P Fx i) k) (onI ((codeN P i).getD k zIn) k) := by
  have q := met_form h
  exact hH_yes (cd := codeN P i) (m := fun q => metB P Fx i q) h (by have := q.2.2.2.2.1; rw [show ((i : Int).toNat) = i from rfl] at this; omega)
/-- As the document goes. -/
def hI (P : PrM) (Fx : FxM) (i : Nat) (t : Int) : Nat := hP P Fx i t.toNat
def stepI (P : PrM) (Fx : FxM) (i k : Nat) (t : Int) : Nat := if ((codeN P i).getD k zIn).op ≠ 16 ∧ (k : Int) < t ∧ metB P Fx i t = true then hI P Fx i t else 0
def sumI (P : PrM) (Fx : FxM) (i : Nat) (t : Int) : Nat := mxL (stepI P Fx i t.toNat) (waysI ((codeN P i).getD t.toNat zIn) t.toNat)
theorem mxL_zero {g : Int → Nat} : ∀ (l : List Int), (∀ t ∈ l, g t = 0) → mxL g l = 0
  | [], _ => rfl
  | a :: l, h => by simp only [mxL]; rw [h a (List.mem_cons_self ..), mxL_zero l (fun t ht => h t (List.mem_cons_of_mem _ ht))]; rfl
theorem hI_step {P : PrM} {Fx : FxM} {i : Nat} {t : Int} (h : metB P Fx i t = true) : hI P Fx i t = 1 + sumI P Fx i t := by
  have q := met_form h
  obtain ⟨k, rfl⟩ : ∃ k : Nat, t = k := ⟨t.toNat, by omega⟩
  unfold hI sumI
  rw [show ((k : Int).toNat) = k from rfl, hP_yes h]
  congr 1
  unfold onI
  by_cases h16 : ((codeN P i).getD k zIn).op = 16
  · rw [if_pos h16]
    exact (mxL_zero _ (fun t _ => by unfold stepI; rw [if_neg (by rw [h16]; simp)])).symm
  · rw [if_neg h16]
    refine mxL_congr _ (fun t _ => ?_)
    unfold gateH stepI hI
    by_cases hk : (k : Int) < t
    · obtain ⟨n, rfl⟩ : ∃ n : Nat, t = n := ⟨t.toNat, by omega⟩
      rw [show ((n : Int).toNat) = n from rfl]
      by_cases hm : metB P Fx i n = true
      · have q2 := met_form hm
        rw [show ((i : Int).toNat) = i from rfl] at q2
        rw [if_pos ⟨hk, q2.2.2.2.2.1⟩, if_pos ⟨h16, hk, hm⟩]
      · have e1 : (if (k : Int) < (n : Int) ∧ (n : Int) < ((codeN P i).length : Int) then hP P Fx i n else 0) = 0 := by
          rw [hP_no (by simpa using hm)]
          split <;> rfl
        rw [e1, if_neg (fun z => hm z.2.2)]
    · rw [if_neg (fun z => hk z.1), if_neg (fun z => hk z.2.1)]
theorem nodup_lenI : ∀ (N : Nat) (l : List Int), l.Nodup → (∀ x ∈ l, 0 ≤ x ∧ x < N) → l.length ≤ N
  | 0, [], _, _ => Nat.le_refl _
  | 0, x :: l, _, h => by have := h x (List.mem_cons_self ..); omega
  | N + 1, l, hn, h => by
    by_cases q : (N : Int) ∈ l
    · have h1 := nodup_lenI N (l.erase (N : Int)) (hn.erase _) (fun x hx => by
        have h2 := (hn.mem_erase_iff).1 hx
        have h3 := h x h2.2
        have h4 : x ≠ (N : Int) := h2.1
        omega)
      rw [List.length_erase_of_mem q] at h1
      omega
    · have h1 := nodup_lenI N l hn (fun x hx => by
        have h3 := h x hx
        have h4 : x ≠ (N : Int) := fun e => q (e ▸ hx)
        omega)
      omega
/-- The greatest of all. -/
def mxF (P : PrM) (Fx : FxM) (i : Nat) : Nat → Nat
  | 0 => 0
  | k + 1 => max (mxF P Fx i k) (hP P Fx i k)
def mxP (P : PrM) (Fx : FxM) : Nat → Nat
  | 0 => 0
  | i + 1 => max (mxP P Fx i) (mxF P Fx i (codeN P i).length)
def mxAll (P : PrM) (Fx : FxM) : Nat := mxP P Fx P.fs.length
theorem mxF_le (P : PrM) (Fx : FxM) (i : Nat) : ∀ k, mxF P Fx i k ≤ (codeN P i).length
  | 0 => Nat.zero_le _
  | k + 1 => by have h1 := mxF_le P Fx i k; have h2 := hP_le P Fx i k; simp only [mxF]; omega
theorem mxF_ge (P : PrM) (Fx : FxM) (i : Nat) : ∀ n k, k < n → hP P Fx i k ≤ mxF P Fx i n
  | n + 1, k, h => by
    simp only [mxF]
    rcases (show k = n ∨ k < n by omega) with rfl | q
    · omega
    · have := mxF_ge P Fx i n k q; omega
theorem mxP_ge (P : PrM) (Fx : FxM) : ∀ n i, i < n → mxF P Fx i (codeN P i).length ≤ mxP P Fx n
  | n + 1, i, h => by
    simp only [mxP]
    rcases (show i = n ∨ i < n by omega) with rfl | q
    · omega
    · have := mxP_ge P Fx n i q; omega
theorem mxP_le {P : PrM} (hP : SmallP P) (Fx : FxM) : ∀ n, n ≤ P.fs.length → mxP P Fx n ≤ 100
  | 0, _ => Nat.zero_le _
  | n + 1, h => by
    have h1 := mxP_le hP Fx n (by omega)
    have h2 := mxF_le P Fx n (codeN P n).length
    have h3 : (codeN P n).length ≤ 100 := by
      unfold codeN
      rw [getD_at (by omega : n < P.fs.length)]
      exact (hP.a _ (List.getElem_mem _)).c
    simp only [mxP]; omega
/-- The row that 'far' makes: of those from t on. -/
def outT (P : PrM) (Fx : FxM) (i t : Nat) : List Int := (List.range (codeN P i).length).map (fun k => if t ≤ k then (hP P Fx i k : Int) else 0)
theorem outT_len (P : PrM) (Fx : FxM) (i t : Nat) : (outT P Fx i t).length = (codeN P i).length := by unfold outT; simp
theorem outT_at {P : PrM} {Fx : FxM} {i t k : Nat} (hk : k < (codeN P i).length) : (outT P Fx i t).getD k 0 = if t ≤ k then (hP P Fx i k : Int) else 0 := by
  unfold outT
  rw [List.getD_eq_getElem?_getD, List.getElem?_map, List.getElem?_range hk]; rfl
theorem outT_start (P : PrM) (Fx : FxM) (i : Nat) : outT P Fx i (codeN P i).length = List.replicate (codeN P i).length 0 := by
  refine List.ext_getElem (by rw [outT_len, List.length_replicate]) (fun k h1 h2 => ?_)
  have hk : k < (codeN P i).length := by rw [outT_len] at h1; exact h1
  have := outT_at (P := P) (Fx := Fx) (t := (codeN P i).length) hk
  rw [getD_at h1, if_neg (by omega)] at this
  rw [this, List.getElem_replicate]
theorem outT_step {P : PrM} {Fx : FxM} {i t : Nat} (ht : t < (codeN P i).length) : (outT P Fx i (t + 1)).set t (hP P Fx i t : Int) = outT P Fx i t := by
  refine List.ext_getElem (by rw [List.length_set, outT_len, outT_len]) (fun k h1 h2 => ?_)
  have hk : k < (codeN P i).length := by rw [outT_len] at h2; exact h2
  have e1 := outT_at (P := P) (Fx := Fx) (t := t) hk
  rw [getD_at h2] at e1
  rw [e1, List.getElem_set]
  split
  · rename_i e; subst e; rw [if_pos (Nat.le_refl _)]
  · rename_i e
    have h3 : k < (outT P Fx i (t + 1)).length := by rw [outT_len]; exact hk
    have e2 := outT_at (P := P) (Fx := Fx) (t := t + 1) hk
    rw [getD_at h3] at e2
    rw [e2]
    by_cases q : t ≤ k
    · rw [if_pos q, if_pos (by omega)]
    · rw [if_neg q, if_neg (by omega)]
theorem outT_skip {P : PrM} {Fx : FxM} {i t : Nat} (h : hP P Fx i t = 0) : outT P Fx i (t + 1) = outT P Fx i t := by
  unfold outT
  refine List.map_congr_left (fun k _ => ?_)
  by_cases q : t ≤ k
  · rw [if_pos q]
    by_cases q2 : t + 1 ≤ k
    · rw [if_pos q2]
    · have : k = t := by omega
      subst this
      rw [if_neg q2, h]; rfl
  · rw [if_neg q, if_neg (by omega)]
end
section
open Go.RowKit
set_option linter.unusedVariables false
set_option linter.unusedSimpArgs false
attribute [local go_sem] over_cell over_frozen
theorem ins_at {w : World} {a : Option Addr} {n c : Nat} {code : List In4} (h : ReadR inE w (.slice a n c) code) {k : Nat} (hk : k < code.length) : ∃ b o, a = some ⟨b, o, none⟩ ∧ b < w.heap.size ∧ w.cell? ⟨b, o + k * 4, none⟩ = some (.int .i64 code[k].op) ∧ w.cell? ⟨b, o + k * 4 + 1, none⟩ = some (.int .u64 code[k].x) ∧ w.cell? ⟨b, o + k * 4 + 2, none⟩ = some (.int .i64 code[k].a) ∧ w.cell? ⟨b, o + k * 4 + 3, none⟩ = some (.int .i64 code[k].b) := by
  obtain ⟨b, o, cap, e, _, _, h5, h4⟩ := readR_pos h (by omega)
  injection e with e1 _ _
  exact ⟨b, o, e1, h5, h4 k hk 0 (by decide), h4 k hk 1 (by decide), h4 k hk 2 (by decide), h4 k hk 3 (by decide)⟩
theorem irow_at {w : World} {g : Nat} {L : List Int} (h : Blk w g (intE.row L)) {k : Nat} (hk : k < L.length) : w.cell? ⟨g, k, none⟩ = some (.int .i64 (L.getD k 0)) := by
  have e1 := row_at intE L k hk 0 (by decide)
  have hlt : k * intE.size + 0 < (intE.row L).length := by rw [row_length]; show k * 1 + 0 < L.length * 1; omega
  have e2 := h.2.1 (k * intE.size + 0) hlt
  have e3 : k * intE.size + 0 = k := by show k * 1 + 0 = k; omega
  rw [← List.getElem?_eq_getElem hlt, e1, e3] at e2
  rw [getD_at hk]
  exact e2
theorem irow_set {w : World} {g : Nat} {L : List Int} (h : Blk w g (intE.row L)) {k : Nat} (hk : k < L.length) (x : Int) : Blk (w.setCell ⟨g, k, none⟩ (.int .i64 x)) g (intE.row (L.set k x)) := by
  have q := blk_elt intE h hk x
  rw [show k * intE.size = k from Nat.mul_one k] at q
  exact q
structure FarS (W wr : World) (g : Nat) (L : List Int) : Prop where
  b : Below W.heap.size W wr
  o : Blk wr g (intE.row L)
theorem farS_call {W w1 w2 : World} {g : Nat} {L : List Int} (h : FarS W w1 g L) (hb : Below w1.heap.size w1 w2) : FarS W w2 g L := ⟨b_call h.b hb, blk_below h.o hb⟩
theorem farS_set {W w1 : World} {g : Nat} {L : List Int} (h : FarS W w1 g L) (hg : W.heap.size ≤ g) {k : Nat} (hk : k < L.length) (x : Int) : FarS W (w1.setCell ⟨g, k, none⟩ (.int .i64 x)) g (L.set k x) :=
  ⟨b_set h.b (p := ⟨g, k, none⟩) hg _, irow_set h.o hk x⟩
theorem farS_drew {W w1 : World} {g : Nat} {L : List Int} (h : FarS W w1 g L) : FarS W w1.drew g L := ⟨b_drew h.b, h.o⟩
theorem outT_zero {P : PrM} {Fx : FxM} {i t : Nat} (ht : t < (codeN P i).length) : (outT P Fx i (t + 1)).set t 0 = outT P Fx i (t + 1) := by
  have h1 : t < (outT P Fx i (t + 1)).length := by rw [outT_len]; exact ht
  have e := outT_at (P := P) (Fx := Fx) (t := t + 1) ht
  rw [getD_at h1, if_neg (by omega)] at e
  have := List.set_getElem_self h1
  rw [e] at this
  exact this
theorem readI_gb {w w' : World} {v : Value} {xs : List Int} {r : Option Nat} (h : ReadI w v xs) (hg : w.grownBy w' r) (hne : ∀ k, v.ownBlock = some k → some k ≠ r) : ReadI w' v xs :=
  readI_kept h (fun b hb hlt => hg.block b hlt (hne b hb)) hg.size
theorem on_any (op x a b : Int) (k : Nat) (hk : k < 1000) (w : World) : Calls Try.prog 116 #[.agg #[.int .i64 op, .int .u64 x, .int .i64 a, .int .i64 b], .int .i64 k] w (RetJ w (onI ⟨op, x, a, b⟩ k)) := by
  by_cases h12 : op = 12
  · subst h12
    rw [show onI ⟨12, x, a, b⟩ k = [a] from rfl]
    go_enter Try.func116, Try.ntmps116
    go_wp2_with fail
    go_ret
    exact ⟨_, _, rfl, readI_lit [a] (by simp) (by simp), fun k hk => by (injection hk with hk; subst hk; exact ⟨by simp, by simp⟩), by (repeat' (first | exact Below.refl _ _ | assumption | refine b_alloc ?_ _ | refine b_over ?_ _ | refine b_drew ?_ | refine b_call ?_ (by assumption)))⟩
  · by_cases h13 : op = 13
    · subst h13
      rw [show onI ⟨13, x, a, b⟩ k = [(k : Int) + 1, a] from rfl]
      clear h12
      go_enter Try.func116, Try.ntmps116
      go_wp2_with fail
      go_ret
      exact ⟨_, _, rfl, readI_lit [(k : Int) + 1, a] (by simp) (by simp), fun k hk => by (injection hk with hk; subst hk; exact ⟨by simp, by simp⟩), by (repeat' (first | exact Below.refl _ _ | assumption | refine b_alloc ?_ _ | refine b_over ?_ _ | refine b_drew ?_ | refine b_call ?_ (by assumption)))⟩
    · by_cases h16 : op = 16
      · subst h16
        rw [show onI ⟨16, x, a, b⟩ k = [] from rfl]
        clear h12 h13
        go_enter Try.func116, Try.ntmps116
        go_wp2_with fail
        go_ret
        exact ⟨_, _, rfl, readI_nil _, fun k hk => by (cases hk), by (repeat' (first | exact Below.refl _ _ | assumption | refine b_alloc ?_ _ | refine b_over ?_ _ | refine b_drew ?_ | refine b_call ?_ (by assumption)))⟩
      · by_cases h15 : op = 15
        · subst h15
          rw [show onI ⟨15, x, a, b⟩ k = [] from rfl]
          clear h12 h13 h16
          go_enter Try.func116, Try.ntmps116
          go_wp2_with fail
          go_ret
          exact ⟨_, _, rfl, readI_nil _, fun k hk => by (cases hk), by (repeat' (first | exact Below.refl _ _ | assumption | refine b_alloc ?_ _ | refine b_over ?_ _ | refine b_drew ?_ | refine b_call ?_ (by assumption)))⟩
        · by_cases h35 : op = 35
          · subst h35
            rw [show onI ⟨35, x, a, b⟩ k = [] from rfl]
            clear h12 h13 h15 h16
            go_enter Try.func116, Try.ntmps116
            go_wp2_with fail
            go_ret
            exact ⟨_, _, rfl, readI_nil _, fun k hk => by (cases hk), by (repeat' (first | exact Below.refl _ _ | assumption | refine b_alloc ?_ _ | refine b_over ?_ _ | refine b_drew ?_ | refine b_call ?_ (by assumption)))⟩
          · rw [show onI ⟨op, x, a, b⟩ k = [(k : Int) + 1] by unfold onI waysI; rw [if_neg h16, if_neg h12, if_neg h13, if_neg (by simp only; omega)]]
            have n12 : (op == 12) = false := beq_false_of_ne h12
            have n13 : (op == 13) = false := beq_false_of_ne h13
            have n15 : (op == 15) = false := beq_false_of_ne h15
            have n16 : (op == 16) = false := beq_false_of_ne h16
            have n35 : (op == 35) = false := beq_false_of_ne h35
            clear h12 h13 h15 h16 h35
            go_enter Try.func116, Try.ntmps116
            go_wp2_with fail
            go_ret
            exact ⟨_, _, rfl, readI_lit [(k : Int) + 1] (by simp) (by simp), fun k hk => by (injection hk with hk; subst hk; exact ⟨by simp, by simp⟩), by (repeat' (first | exact Below.refl _ _ | assumption | refine b_alloc ?_ _ | refine b_over ?_ _ | refine b_drew ?_ | refine b_call ?_ (by assumption)))⟩
theorem onI_len (x : In4) (k : Nat) : (onI x k).length ≤ 2 := by unfold onI waysI; repeat' split
                                                                 all_goals simp
def mkZ (n : Nat) : Array Value := madeCells (Value.int .i64 0).cells (n * intE.size)
set_option maxRecDepth 100000 in
set_option maxHeartbeats 2000000 in
theorem far_any (p : PrV) (P : PrM) (v : Value) (Fx : FxM) (i : Nat) (w : World) (h : ReadP w p P) (hP : SmallP P) (hf : FacR w v Fx) (hi : i < P.fs.length) : Calls Try.prog 87 #[aggP p, v, .int .i64 i] w (RetJ w (outT P Fx i 0)) := by
  obtain ⟨va, vc, rfl, m2, m3⟩ := facR_form hf
  obtain ⟨u, ⟨ga, gn, gc⟩, m0, ⟨fa, fn, fc⟩⟩ := p
  have HV := Lib.hid (fun (j : Nat) w' (hb : Below w.heap.size w w') => vfact_any ⟨u, ⟨ga, gn, gc⟩, m0, ⟨fa, fn, fc⟩⟩ P (.slice va Fx.length vc) Fx i j w' (readP_below h hb) (facR_below hf hb))
  obtain ⟨n1, n2, n3⟩ := fn_len h
  obtain ⟨b2, o2, ea, hb2, ⟨⟨pa, pn, pc⟩, ⟨la, ln, lc⟩, r, ⟨ca, cn, cc⟩⟩, hd, _, _, _, e3⟩ := fn_at h hi
  have HCOD : codeN P i = P.fs[i].code := by unfold codeN; rw [getD_at hi]
  have hsm := (hP.a _ (List.getElem_mem hi)).c
  have hD : ReadR inE w (.slice ca cn cc) (codeN P i) := by rw [HCOD]; exact hd.c
  rw [← HCOD] at hsm
  obtain ⟨_, cap9, ec, hcc1, hcc2⟩ := readR_len hD
  injection ec with ec3 ec4 ec5
  clear ec3
  simp only at n1 n2 n3 ea e3
  subst n1
  subst ea
  obtain ⟨N, hN⟩ : ∃ N, N = (codeN P i).length := ⟨_, rfl⟩
  rw [ec4, ← hN] at e3 hD
  have HD := Lib.hid hD
  have HN := Lib.hid hN
  have n9 : (N : Int) ≤ 100 := by omega
  have n8 : (0 : Int) ≤ N := by omega
  have ncc : (N : Int) ≤ cc := by omega
  have i0 : (0 : Int) ≤ i := by omega
  have i1 : (i : Int) < P.fs.length := by omega
  have ic : (i : Int) < fc := by omega
  have key : ∀ w : World, (Instr.makeSlice 22 (.int .i64 N) (.int .i64 N)).run Try.prog w = .ok (.slice (some ⟨w.heap.size, 0, none⟩) N N) (w.alloc (.cells (mkZ N) 3)) := fun w => run_makeR (c := intE) rowInt _ _ N (by omega) (by omega) w
  have HE := Lib.hid (And.intro hb2 e3)
  clear h hf hP hd HCOD hsm hD hN ec4 ec5 hcc1 hcc2 m2 m3 hb2 e3
  unfold aggP Sl.v at *
  simp only at *
  go_enter Try.func87, Try.ntmps87
  go_upto_region 1 with fail
  refine wp_named ?_
  intro W hW
  have q1 : Blk W w.heap.size [.bool u, .slice ga gn gc, .int .i64 m0, .slice (some ⟨b2, o2, none⟩) P.fs.length fc] := by rw [hW]; exact blk_new _ _ _
  have q3 : Below w.heap.size w W := by rw [hW]; exact b_alloc (Below.refl _ _) _
  have HBW := Lib.hid q3
  have HK : Hid (∀ w', Below W.heap.size W w' → (w'.cell? ⟨w.heap.size, 0, none⟩ = some (.bool u) ∧ w'.cell? ⟨w.heap.size, 1, none⟩ = some (.slice ga gn gc) ∧ w'.cell? ⟨w.heap.size, 2, none⟩ = some (.int .i64 m0) ∧ w'.cell? ⟨w.heap.size, 3, none⟩ = some (.slice (some ⟨b2, o2, none⟩) P.fs.length fc)) ∧ w.heap.size < w'.heap.size) := Lib.hid (fun w' hb => by
    obtain ⟨y0, y1, y2, y3, _⟩ := blk4 (blk_below q1 hb); exact ⟨⟨y0, y1, y2, y3⟩, (blk_below q1 hb).1⟩)
  have d3 := ((bcell q3).1 _ _ HE.out.1).trans HE.out.2
  have dz := Nat.lt_of_lt_of_le HE.out.1 q3.size
  obtain ⟨⟨y0, y1, y2, y3⟩, yz⟩ := HK.out W (Below.refl _ _)
  clear hW q1 q3
  go_upto_region 3 with fail
  refine wp_named ?_
  intro W1 hW1
  obtain ⟨g, hg⟩ : ∃ g, g = W.heap.size := ⟨_, rfl⟩
  have HS1 : Hid (FarS W W1 g (outT P Fx i N)) := Lib.hid (by
    rw [hW1, HN.out, outT_start, ← HN.out, hg]
    exact ⟨b_alloc (Below.refl _ _) _, blk_make W 0 rfl N⟩)
  have hgW : W.heap.size ≤ g := by omega
  have HG := Lib.hid hg
  rw [← hg]
  clear hW1 hg key d3 dz y0 y1 y2 y3 yz
  go_wp2_with fail
  go_loopw [9] (fun x wr => ∃ (t : Nat) (y : Int), t ≤ N ∧ x = .int .i64 y ∧ y = (t : Int) - 1 ∧ Hid (FarS W wr g (outT P Fx i t))) (fun x _ => (intOf x + 1).toNat)
  case atStart => exact ⟨N, _, Nat.le_refl _, rfl, rfl, HS1⟩
  case round =>
    obtain ⟨W3, hW3⟩ : ∃ x, x = wr := ⟨_, rfl⟩
    subst hW3
    obtain ⟨t, y, ht, rfl, hy, HS⟩ := hrel
    cases t with
    | zero =>
      have hy1 : y = -1 := by omega
      subst hy1
      clear hy ht
      go_wp2_with fail
      go_ret
      have hl : N = (outT P Fx i 0).length := by rw [outT_len, HN.out]
      have hr := readR_blk HS.out.o (Nat.le_refl _) (by rw [← hl]; unfold maxLen; omega)
      show RetJ w (outT P Fx i 0) (.returned (.slice (some ⟨g, 0, none⟩) N N)) W3
      refine ⟨some ⟨g, 0, none⟩, N, by rw [← hl], ?_, fun k hk => ?_, b_call HBW.out HS.out.b⟩
      · rw [← hl] at hr ⊢
        exact readR_I hr
      · injection hk with hk
        subst hk
        exact ⟨by have := HBW.out.size; show w.heap.size ≤ g; omega, HS.out.o.1⟩
    | succ t =>
      have hy1 : y = (t : Int) := by omega
      subst hy1
      clear hy
      have t0 : (0 : Int) ≤ t := by omega
      have t1 : (t : Int) < N := by omega
      have htl : t < (codeN P i).length := by rw [← HN.out]; omega
      have HTL := Lib.hid htl
      obtain ⟨⟨y0, y1, y2, y3⟩, yz⟩ := HK.out W3 HS.out.b
      obtain ⟨B, hB⟩ : ∃ B, B = metB P Fx i t := ⟨_, rfl⟩
      have HBB := Lib.hid hB
      clear htl
      go_wp2_with fail
      refine (HV.out t W3 (b_call HBW.out HS.out.b)).mono ?_
      rintro e w4 ⟨tb, ⟨sa, sn, sc⟩, he, _, hb4⟩
      rw [← hB] at he
      subst he
      simp only
      have HS4 := Lib.hid (farS_call HS.out hb4)
      clear hb4 hB y0 y1 y2 y3 yz
      go_upto_region 7 with fail
      refine wp_named ?_
      intro W5 hW5
      have S5 : Blk W5 w4.heap.size [.bool tb, .slice sa sn sc] ∧ Below w4.heap.size w4 W5 := by
        first
        | (rw [hW5]; exact ⟨blk_new _ _ _, b_alloc (Below.refl _ _) _⟩)
        | exact store2 rfl hW5
      have HS5 := Lib.hid (farS_call HS4.out S5.2)
      clear hW5 S5
      cases B with
      | false =>
        have HT : Hid (outT P Fx i (t + 1) = outT P Fx i t) := Lib.hid (outT_skip (hP_no HBB.out.symm))
        go_wp2_with fail
        go_roundw
        case rel => exact ⟨t, (t : Int) - 1, by omega, by first | rfl | go_num, rfl, Lib.hid (by rw [← HT.out]; exact HS5.out)⟩
        case measure => simp [intOf]
      | true =>
        have hb5 := b_call HBW.out HS5.out.b
        obtain ⟨bc, oc, ec, hbc, x0, x1, x2, x3⟩ := ins_at (readR_below HD.out hb5) HTL.out
        subst ec
        obtain ⟨ON, hON⟩ : ∃ ON, ON = onI ((codeN P i).getD t zIn) t := ⟨_, rfl⟩
        have HOL : Hid (ON.length ≤ 2) := Lib.hid (by rw [hON]; exact onI_len _ _)
        have HH : Hid (hP P Fx i t = 1 + mxL (gateH N (hP P Fx i) t) ON) := Lib.hid (by rw [hON, HN.out]; exact hP_yes HBB.out.symm)
        have HC := Lib.hid (fun w => on_any (codeN P i)[t].op (codeN P i)[t].x (codeN P i)[t].a (codeN P i)[t].b t (by omega) w)
        have e9 : (⟨(codeN P i)[t].op, (codeN P i)[t].x, (codeN P i)[t].a, (codeN P i)[t].b⟩ : In4) = (codeN P i).getD t zIn := by rw [getD_at HTL.out]; rfl
        rw [e9, ← hON] at HC
        clear hON e9 hb5
        generalize (codeN P i)[t].op = op at *
        generalize (codeN P i)[t].x = ix at *
        generalize (codeN P i)[t].a = ia at *
        generalize (codeN P i)[t].b = ib at *
        go_wp2_with fail
        refine (HC.out _).mono ?_
        rintro e w6 ⟨oa, ocp, rfl, hro, how, hb6⟩
        have HOWN : Hid (∀ k, (Value.slice oa ON.length ocp).ownBlock = some k → some k ≠ some g) := Lib.hid (fun k hk e => by injection e with e; have := (how k hk).1; have := HS5.out.o.1; omega)
        have HS6 := Lib.hid (farS_call HS5.out hb6)
        have HRO := Lib.hid hro
        have ho2 : ON.length ≤ ocp := (int_len (s := ⟨oa, ON.length, ocp⟩) hro).2.1
        have ho3 : (ocp : Int) ≤ 9223372036854775807 := by have := (int_len (s := ⟨oa, ON.length, ocp⟩) hro).2.2; simp only at this; omega
        have hol : (ON.length : Int) ≤ 2 := by have := HOL.out; omega
        clear hb6 hro x0 x1 x2 x3 hbc how
        go_wp2_with fail
        go_loopw [47] (fun q wr => ∃ q' : Nat, q = .int .i64 q' ∧ q' ≤ ON.length ∧ Hid (FarS W wr g ((outT P Fx i (t + 1)).set t (mxL (gateH N (hP P Fx i) t) (ON.take q') : Nat))) ∧ Hid (ReadI wr (.slice oa ON.length ocp) ON)) (fun q _ => ON.length - (intOf q).toNat)
        case atStart => exact ⟨0, rfl, Nat.zero_le _, Lib.hid (by rw [List.take_zero]; show FarS W _ g ((outT P Fx i (t + 1)).set t 0); rw [outT_zero HTL.out]; exact HS6.out), HRO⟩
        case round =>
          obtain ⟨W7, hW7⟩ : ∃ x, x = wr := ⟨_, rfl⟩
          subst hW7
          obtain ⟨q, rfl, hq, HS7, HR7⟩ := hrel
          have q0 : (0 : Int) ≤ q := by omega
          by_cases hlt : q < ON.length
          · have q1 : (q : Int) < ON.length := by omega
            obtain ⟨bl, off, cp, e1, r1, r2, hbl, r4⟩ := readI_pos HR7.out (by omega)
            injection e1 with e1 _ e3
            subst e1
            have hcx := r4 q hlt
            have HX : Hid (ON.take (q + 1) = ON.take q ++ [ON[q]]) := Lib.hid (List.take_succ_eq_append_getElem hlt)
            rw [List.getD_eq_getElem?_getD, List.getElem?_eq_getElem hlt, Option.getD_some] at hcx
            generalize ON[q] = x at *
            obtain ⟨m, hm⟩ : ∃ m, m = mxL (gateH N (hP P Fx i) t) (ON.take q) := ⟨_, rfl⟩
            rw [← hm] at HS7
            have HX2 : Hid (mxL (gateH N (hP P Fx i) t) (ON.take (q + 1)) = max m (gateH N (hP P Fx i) t x)) := Lib.hid (by rw [HX.out, mxL_snoc, ← hm])
            clear r4 r1 r2 e3 hm
            by_cases hA : (t : Int) < x
            · by_cases hB : x < N
              · obtain ⟨n, rfl⟩ : ∃ n : Nat, x = n := ⟨x.toNat, by omega⟩
                have HG2 : Hid (gateH N (hP P Fx i) t n = hP P Fx i n) := Lib.hid (by unfold gateH; rw [if_pos ⟨hA, hB⟩]; rfl)
                have hn0 : (0 : Int) ≤ n := by omega
                have hl1 : t < (outT P Fx i (t + 1)).length := by rw [outT_len]; exact HTL.out
                have hl2 : t < ((outT P Fx i (t + 1)).set t (m : Int)).length := by rw [List.length_set]; exact hl1
                have hl3 : n < ((outT P Fx i (t + 1)).set t (m : Int)).length := by rw [List.length_set, outT_len, ← HN.out]; omega
                have z0 := irow_at HS7.out.o hl2
                have z1 := irow_at HS7.out.o hl3
                rw [getD_at hl2, List.getElem_set_self] at z0
                have e5 : ((outT P Fx i (t + 1)).set t (m : Int)).getD n 0 = (hP P Fx i n : Int) := by
                  rw [getD_at hl3, List.getElem_set_ne (by omega)]
                  have hl4 : n < (outT P Fx i (t + 1)).length := by rw [outT_len, ← HN.out]; omega
                  rw [← getD_at hl4 0, outT_at (by rw [← HN.out]; omega), if_pos (by omega)]
                rw [e5] at z1
                have gz := HS7.out.o.1
                have gf := HS7.out.o.2.2
                generalize hP P Fx i n = hn at *
                clear hl1 hl3 e5
                have HL2 := Lib.hid hl2
                clear hl2
                go_upto_region 12 with fail
                go_region
                go_wp2_with fail
                have HE9 : Hid ((if m < hn then (hn : Int) else (m : Int)) = ((max m hn : Nat) : Int)) := Lib.hid (by split <;> omega)
                go_roundw
                case rel =>
                  refine ⟨q + 1, by first | rfl | go_num, by omega, Lib.hid ?_, Lib.hid (readI_gb HR7.out (gb_drew (gb_set (gb_refl _ (some g)) _ _ _)) HOWN.out)⟩
                  rw [HX2.out, HG2.out, HE9.out]
                  have q9 := farS_drew (farS_set HS7.out hgW HL2.out ((max m hn : Nat) : Int))
                  rw [List.set_set] at q9
                  exact q9
                case measure => simp [intOf]; omega
              · have hB1 : ¬ (x < (N : Int)) := hB
                have HG2 : Hid (gateH N (hP P Fx i) t x = 0) := Lib.hid (by unfold gateH; rw [if_neg (fun z => hB z.2)])
                go_wp2_with fail
                go_roundw
                case rel => exact ⟨q + 1, by first | rfl | go_num, by omega, Lib.hid (by rw [HX2.out, HG2.out, Nat.max_eq_left (Nat.zero_le _)]; exact HS7.out), HR7⟩
                case measure => simp [intOf]; omega
            · have HG2 : Hid (gateH N (hP P Fx i) t x = 0) := Lib.hid (by unfold gateH; rw [if_neg (fun z => hA z.1)])
              go_wp2_with fail
              go_roundw
              case rel => exact ⟨q + 1, by first | rfl | go_num, by omega, Lib.hid (by rw [HX2.out, HG2.out, Nat.max_eq_left (Nat.zero_le _)]; exact HS7.out), HR7⟩
              case measure => simp [intOf]; omega
          · have q1 : ¬ ((q : Int) < ON.length) := by omega
            have HQ : Hid (q = ON.length) := Lib.hid (by omega)
            obtain ⟨m, hm⟩ : ∃ m, m = mxL (gateH N (hP P Fx i) t) (ON.take q) := ⟨_, rfl⟩
            rw [← hm] at HS7
            have HM : Hid (hP P Fx i t = 1 + m) := Lib.hid (by rw [HH.out, hm, List.take_of_length_le (by omega)])
            have hml : m ≤ 100 := by have := hP_le P Fx i t; have := HM.out; have := HN.out; omega
            have hl1 : t < (outT P Fx i (t + 1)).length := by rw [outT_len]; exact HTL.out
            have hl2 : t < ((outT P Fx i (t + 1)).set t (m : Int)).length := by rw [List.length_set]; exact hl1
            have z0 := irow_at HS7.out.o hl2
            rw [getD_at hl2, List.getElem_set_self] at z0
            have gz := HS7.out.o.1
            have gf := HS7.out.o.2.2
            have HL2 := Lib.hid hl2
            have m0 : (0 : Int) ≤ m := by omega
            have m1 : (m : Int) ≤ 100 := by omega
            clear hl1 hl2 hm hml
            go_wp2_with fail
            go_roundw
            case rel =>
              refine ⟨t, (t : Int) - 1, by omega, by first | rfl | go_num, rfl, Lib.hid ?_⟩
              have q9 := farS_set HS7.out hgW HL2.out ((m : Int) + 1)
              rw [List.set_set, show ((m : Int) + 1) = ((hP P Fx i t : Nat) : Int) by rw [HM.out]; omega, outT_step HTL.out] at q9
              have e9 : ((hP P Fx i t : Nat) : Int) = (m : Int) + 1 := by rw [HM.out]; omega
              rw [e9] at q9
              exact q9
            case measure => simp [intOf]
set_option maxHeartbeats 1000000 in
theorem rhas27_any (u : Value) (xs : List Int) (x : Int) (w : World) (h : ReadI w u xs) (hl : xs.length ≤ 1000) : Calls Try.prog 115 #[u, .int .i64 x] w fun e w' => e = .returned (.bool (decide (x ∈ xs))) ∧ w = w' := by
  obtain ⟨a, cap, rfl⟩ := readI_len h
  have H := Lib.hid h
  have hl1 : (xs.length : Int) ≤ 1000 := by omega
  clear h hl
  go_enter Try.func115, Try.ntmps115
  go_wp2_with fail
  go_loopw [9] (fun i wr => ∃ k : Nat, k ≤ xs.length ∧ i = .int .i64 k ∧ Hid (∀ j, j < k → xs.getD j 0 ≠ x) ∧ w = wr) (fun i _ => xs.length - (intOf i).toNat)
  case atStart => exact ⟨0, Nat.zero_le _, rfl, Lib.hid (fun j hj => absurd hj (Nat.not_lt_zero _)), rfl⟩
  case round =>
    obtain ⟨k, hk, rfl, HI, rfl⟩ := hrel
    have k0 : (0 : Int) ≤ k := by omega
    by_cases hlt : k < xs.length
    · have k1 : (k : Int) < xs.length := by omega
      obtain ⟨bl, off, cp, e1, r1, r2, hbl, r4⟩ := readI_pos H.out (by omega)
      injection e1 with e1 _ e3
      subst e1
      have hcx := r4 k hlt
      have HG : Hid (xs.getD k 0 = xs[k]) := Lib.hid (getD_at hlt 0)
      have HM : Hid (xs[k] ∈ xs) := Lib.hid (List.getElem_mem hlt)
      rw [HG.out] at hcx
      generalize xs[k] = y at *
      clear r4 r1 r2 e3
      by_cases hxy : y = x
      · have HD : Hid (decide (x ∈ xs) = true) := Lib.hid (decide_eq_true (hxy ▸ HM.out))
        have t : (y == x) = true := by rw [hxy]; simp
        have E := Lib.hid hxy; clear hxy
        go_wp2_with fail
        go_ret
        exact ⟨by rw [HD.out]; rfl, rfl⟩
      · have t : (y == x) = false := beq_false_of_ne hxy
        have E := Lib.hid hxy; clear hxy
        go_wp2_with fail
        go_roundw
        case rel =>
          refine ⟨k + 1, by omega, by first | rfl | go_num, Lib.hid (fun j hj => ?_), by first | rfl | trivial⟩
          rcases (show j = k ∨ j < k by omega) with rfl | q
          · rw [HG.out]; exact E.out
          · exact HI.out j q
        case measure => simp [intOf]; omega
    · have HD : Hid (decide (x ∈ xs) = false) := Lib.hid (decide_eq_false (fun hm => by
        obtain ⟨j, hj, e⟩ := List.getElem_of_mem hm
        exact HI.out j (by omega) (by rw [getD_at hj]; exact e)))
      go_wp2_with fail
      go_ret
      exact ⟨by rw [HD.out]; rfl, rfl⟩
/-- May a thread stop there? -/
def safeB (op : Int) : Bool := decide (op = 14 ∨ op = 15 ∨ op = 16 ∨ op = 17 ∨ op = 23 ∨ op = 24 ∨ op = 28 ∨ op = 29 ∨ op = 30 ∨ op = 31)
set_option maxRecDepth 100000 in
set_option maxHeartbeats 2000000 in
theorem mreach_any (p : PrV) (P : PrM) (v : Value) (Fx : FxM) (f a : Int) (w : World) (h : ReadP w p P) (hP : SmallP P) (hf : FacR w v Fx) : Calls Try.prog 47 #[aggP p, v, .int .i64 f, .int .i64 a] w fun e w' => e = .returned (.int .i64 (reachM P Fx f a)) ∧ Below w.heap.size w w' := by
  obtain ⟨va, vc, rfl, m2, m3⟩ := facR_form hf
  obtain ⟨u, ⟨ga, gn, gc⟩, m0, ⟨fa, fn, fc⟩⟩ := p
  have HV := Lib.hid (fun w' (hb : Below w.heap.size w w') => vfact_any ⟨u, ⟨ga, gn, gc⟩, m0, ⟨fa, fn, fc⟩⟩ P (.slice va Fx.length vc) Fx f a w' (readP_below h hb) (facR_below hf hb))
  have HF := Lib.hid (fun (i : Nat) (hi : i < P.fs.length) w' (hb : Below w.heap.size w w') => far_any ⟨u, ⟨ga, gn, gc⟩, m0, ⟨fa, fn, fc⟩⟩ P (.slice va Fx.length vc) Fx i w' (readP_below h hb) hP (facR_below hf hb) hi)
  obtain ⟨B, hB⟩ : ∃ B, B = metB P Fx f a := ⟨_, rfl⟩
  have HBB := Lib.hid hB
  clear h hf hB m2 m3 hP
  unfold aggP Sl.v at *
  simp only at *
  go_enter Try.func47, Try.ntmps47
  go_upto_region 1 with fail
  refine wp_named ?_
  intro W hW
  have q1 : Blk W w.heap.size [.bool u, .slice ga gn gc, .int .i64 m0, .slice fa fn fc] := by rw [hW]; exact blk_new _ _ _
  have q3 : Below w.heap.size w W := by rw [hW]; exact b_alloc (Below.refl _ _) _
  have HQ := Lib.hid q1
  have HBW := Lib.hid q3
  obtain ⟨y0, y1, y2, y3, _⟩ := blk4 q1
  have yz := q1.1
  clear hW q1 q3
  go_wp2_with fail
  refine (HV.out W HBW.out).mono ?_
  rintro e w1 ⟨tb, ⟨sa, sn, sc⟩, he, _, hb1⟩
  rw [← HBB.out] at he
  subst he
  simp only
  have HB1 := Lib.hid hb1
  clear hb1 y0 y1 y2 y3 yz
  go_upto_region 2 with fail
  refine wp_named ?_
  intro W2 hW2
  have S2 : Blk W2 w1.heap.size [.bool tb, .slice sa sn sc] ∧ Below w1.heap.size w1 W2 := by
    first
    | (rw [hW2]; exact ⟨blk_new _ _ _, b_alloc (Below.refl _ _) _⟩)
    | exact store2 rfl hW2
  have HB2 := Lib.hid (b_call HB1.out S2.2)
  clear hW2 S2
  cases B with
  | false =>
    have HE : Hid (reachM P Fx f a = 0) := Lib.hid (by unfold reachM; rw [← HBB.out]; rfl)
    go_wp2_with fail
    go_ret
    exact ⟨by rw [HE.out]; rfl, b_call HBW.out HB2.out⟩
  | true =>
    have hm := met_form HBB.out.symm
    obtain ⟨i, rfl⟩ : ∃ i : Nat, f = i := ⟨f.toNat, by omega⟩
    obtain ⟨j, rfl⟩ : ∃ j : Nat, a = j := ⟨a.toNat, by omega⟩
    have HE : Hid (reachM P Fx i j = hP P Fx i j) := Lib.hid (by unfold reachM; rw [← HBB.out]; rfl)
    rw [show ((i : Int).toNat) = i from rfl] at hm
    have hi : i < P.fs.length := by omega
    have hj : j < (codeN P i).length := by omega
    obtain ⟨OL, hOL⟩ : ∃ OL, OL = outT P Fx i 0 := ⟨_, rfl⟩
    have hol : OL.length = (codeN P i).length := by rw [hOL, outT_len]
    have HJ : Hid (j < OL.length ∧ OL.getD j 0 = (hP P Fx i j : Int)) := Lib.hid ⟨by omega, by rw [hOL, outT_at hj, if_pos (Nat.zero_le _)]⟩
    have HFF := Lib.hid (HF.out i hi)
    rw [← hOL] at HFF
    have j0 : (0 : Int) ≤ j := by omega
    have j1 : (j : Int) < OL.length := by omega
    obtain ⟨y0, y1, y2, y3, _⟩ := blk4 (blk_below HQ.out HB2.out)
    have yz := (blk_below HQ.out HB2.out).1
    clear hm hi hj hOL hol HF
    go_wp2_with fail
    refine (HFF.out _ (b_call HBW.out HB2.out)).mono ?_
    rintro e w3 ⟨ra, rc, rfl, hr, _, hb3⟩
    obtain ⟨bl, off, cp, e1, r1, r2, hbl, r4⟩ := readI_pos hr (by have := HJ.out.1; omega)
    injection e1 with e1 _ e3
    subst e1
    have hcx := r4 j HJ.out.1
    rw [HJ.out.2] at hcx
    have HB3 := Lib.hid (b_call HB2.out hb3)
    clear r4 r1 r2 e3 hr hb3 y0 y1 y2 y3 yz
    go_wp2_with fail
    go_ret
    exact ⟨by rw [HE.out]; rfl, b_call HBW.out HB3.out⟩
set_option maxRecDepth 100000 in
set_option maxHeartbeats 2000000 in
theorem mmost_any (p : PrV) (P : PrM) (v : Value) (Fx : FxM) (w : World) (h : ReadP w p P) (hsP : SmallP P) (hf : FacR w v Fx) : Calls Try.prog 49 #[aggP p, v] w fun e w' => e = .returned (.int .i64 (mxAll P Fx)) ∧ Below w.heap.size w w' := by
  obtain ⟨va, vc, rfl, m2, m3⟩ := facR_form hf
  obtain ⟨n1, n2, n3⟩ := fn_len h
  obtain ⟨u, ⟨ga, gn, gc⟩, m0, ⟨fa, fn, fc⟩⟩ := p
  have HF := Lib.hid (fun (i : Nat) (hi : i < P.fs.length) w' (hb : Below w.heap.size w w') => far_any ⟨u, ⟨ga, gn, gc⟩, m0, ⟨fa, fn, fc⟩⟩ P (.slice va Fx.length vc) Fx i w' (readP_below h hb) hsP (facR_below hf hb) hi)
  have HML : Hid (∀ i, i ≤ P.fs.length → mxP P Fx i ≤ 100) := Lib.hid (fun i hi => mxP_le hsP Fx i hi)
  have HCL : Hid (∀ i, i < P.fs.length → (codeN P i).length ≤ 100) := Lib.hid (fun i hi => by unfold codeN; rw [getD_at hi]; exact (hsP.a _ (List.getElem_mem _)).c)
  simp only at n1 n2 n3
  subst n1
  have hn17 : (P.fs.length : Int) ≤ 17 := by have := hsP.f; omega
  clear h hf m2 m3 hsP
  unfold aggP Sl.v at *
  simp only at *
  go_enter Try.func49, Try.ntmps49
  go_upto_region 1 with fail
  refine wp_named ?_
  intro W hW
  have q1 : Blk W w.heap.size [.bool u, .slice ga gn gc, .int .i64 m0, .slice fa P.fs.length fc] := by rw [hW]; exact blk_new _ _ _
  have q3 : Below w.heap.size w W := by rw [hW]; exact b_alloc (Below.refl _ _) _
  have HQ := Lib.hid q1
  have HBW := Lib.hid q3
  obtain ⟨y0, y1, y2, y3, _⟩ := blk4 q1
  have yz := q1.1
  clear hW q1 q3
  go_wp2_with fail
  clear y0 y1 y2 y3 yz
  go_loopw [5, 12] (fun m i wr => ∃ k : Nat, k ≤ P.fs.length ∧ i = .int .i64 k ∧ m = .int .i64 (mxP P Fx k : Nat) ∧ Hid (Below W.heap.size W wr)) (fun _ i _ => P.fs.length - (intOf i).toNat)
  case atStart => exact ⟨0, Nat.zero_le _, rfl, rfl, Lib.hid (Below.refl _ _)⟩
  case round =>
    obtain ⟨W1, hW1⟩ : ∃ x, x = wr := ⟨_, rfl⟩
    subst hW1
    obtain ⟨k, hk, rfl, rfl, HB⟩ := hrel
    have k0 : (0 : Int) ≤ k := by omega
    by_cases hlt : k < P.fs.length
    · have k1 : (k : Int) < P.fs.length := by omega
      obtain ⟨y0, y1, y2, y3, _⟩ := blk4 (blk_below HQ.out HB.out)
      have yz := (blk_below HQ.out HB.out).1
      obtain ⟨OL, hOL⟩ : ∃ OL, OL = outT P Fx k 0 := ⟨_, rfl⟩
      have hol : OL.length = (codeN P k).length := by rw [hOL, outT_len]
      have HOL : Hid (OL.length = (codeN P k).length ∧ ∀ j, j < OL.length → OL.getD j 0 = (hP P Fx k j : Int)) := Lib.hid ⟨hol, fun j hj => by rw [hOL, outT_at (by omega), if_pos (Nat.zero_le _)]⟩
      have HFF := Lib.hid (HF.out k hlt)
      rw [← hOL] at HFF
      have hol9 : (OL.length : Int) ≤ 100 := by have := HCL.out k hlt; omega
      have HMN : Hid (mxP P Fx (k + 1) = max (mxP P Fx k) (mxF P Fx k OL.length)) := Lib.hid (by rw [hol]; rfl)
      have hmk := HML.out k hk
      generalize mxP P Fx k = M at *
      clear hol hOL
      go_wp2_with fail
      refine (HFF.out _ (b_call HBW.out HB.out)).mono ?_
      rintro e w3 ⟨ra, rc, rfl, hr, _, hb3⟩
      have HB3 := Lib.hid (b_call HB.out hb3)
      have HR := Lib.hid hr
      have hrc : OL.length ≤ rc := (int_len (s := ⟨ra, OL.length, rc⟩) hr).2.1
      clear y0 y1 y2 y3 yz hr hb3
      go_wp2_with fail
      go_loopw [5, 20] (fun m i wr => ∃ (q mm : Nat), q ≤ OL.length ∧ i = .int .i64 q ∧ m = .int .i64 mm ∧ Hid (mm = max M (mxF P Fx k q)) ∧ w3 = wr) (fun _ i _ => OL.length - (intOf i).toNat)
      case atStart => exact ⟨0, M, Nat.zero_le _, rfl, rfl, Lib.hid (by simp [mxF]), rfl⟩
      case round =>
        obtain ⟨q, mm, hq, rfl, rfl, HMM, rfl⟩ := hrel
        have q0 : (0 : Int) ≤ q := by omega
        by_cases hql : q < OL.length
        · have q1 : (q : Int) < OL.length := by omega
          obtain ⟨bl, off, cp, e1, r1, r2, hbl, r4⟩ := readI_pos HR.out (by omega)
          injection e1 with e1 _ e3
          subst e1
          have hcx := r4 q hql
          rw [HOL.out.2 q hql] at hcx
          have HS : Hid (mxF P Fx k (q + 1) = max (mxF P Fx k q) (hP P Fx k q)) := Lib.hid rfl
          generalize hP P Fx k q = hn at *
          clear r4 r1 r2 e3
          go_wp2_with fail
          have HE9 : Hid ((if mm < hn then (hn : Int) else (mm : Int)) = ((max mm hn : Nat) : Int)) := Lib.hid (by split <;> omega)
          go_roundw
          case rel => exact ⟨q + 1, max mm hn, by omega, by first | rfl | go_num, by first | rfl | (rw [← HE9.out]) | (congr 1; exact HE9.out), Lib.hid (by rw [HS.out, HMM.out]; omega), by first | rfl | trivial⟩
          case measure => simp [intOf]; omega
        · have q1 : ¬ ((q : Int) < OL.length) := by omega
          have HE : Hid (mm = mxP P Fx (k + 1)) := Lib.hid (by rw [HMN.out, HMM.out, show q = OL.length by omega])
          go_wp2_with fail
          go_roundw
          case rel => exact ⟨k + 1, by omega, by first | rfl | go_num, by rw [HE.out], HB3⟩
          case measure => simp [intOf]; omega
    · have k1 : ¬ ((k : Int) < P.fs.length) := by omega
      have HE : Hid (k = P.fs.length) := Lib.hid (by omega)
      go_wp2_with fail
      go_ret
      exact ⟨by unfold mxAll; rw [← HE.out]; rfl, b_call HBW.out HB.out⟩
set_option maxHeartbeats 1000000 in
theorem msafe_any (op : Int) (w : World) : Calls Try.prog 50 #[.int .i64 op] w fun e w' => e = .returned (.bool (safeB op)) ∧ Below w.heap.size w w' := by
  by_cases h16 : op = 16
  · subst h16
    go_enter Try.func50, Try.ntmps50
    go_wp2_with fail
    go_ret
    exact ⟨rfl, by (repeat' (first | exact Below.refl _ _ | assumption | refine b_alloc ?_ _ | refine b_over ?_ _ | refine b_drew ?_ | refine b_call ?_ (by assumption)))⟩
  · skip
    by_cases h14 : op = 14
    · subst h14
      clear h16
      go_enter Try.func50, Try.ntmps50
      go_wp2_with fail
      go_ret
      exact ⟨rfl, by (repeat' (first | exact Below.refl _ _ | assumption | refine b_alloc ?_ _ | refine b_over ?_ _ | refine b_drew ?_ | refine b_call ?_ (by assumption)))⟩
    · skip
      by_cases h15 : op = 15
      · subst h15
        clear h16 h14
        go_enter Try.func50, Try.ntmps50
        go_wp2_with fail
        go_ret
        exact ⟨rfl, by (repeat' (first | exact Below.refl _ _ | assumption | refine b_alloc ?_ _ | refine b_over ?_ _ | refine b_drew ?_ | refine b_call ?_ (by assumption)))⟩
      · skip
        by_cases h17 : op = 17
        · subst h17
          clear h16 h14 h15
          go_enter Try.func50, Try.ntmps50
          go_wp2_with fail
          go_ret
          exact ⟨rfl, by (repeat' (first | exact Below.refl _ _ | assumption | refine b_alloc ?_ _ | refine b_over ?_ _ | refine b_drew ?_ | refine b_call ?_ (by assumption)))⟩
        · skip
          by_cases h23 : op = 23
          · subst h23
            clear h16 h14 h15 h17
            go_enter Try.func50, Try.ntmps50
            go_wp2_with fail
            go_ret
            exact ⟨rfl, by (repeat' (first | exact Below.refl _ _ | assumption | refine b_alloc ?_ _ | refine b_over ?_ _ | refine b_drew ?_ | refine b_call ?_ (by assumption)))⟩
          · skip
            by_cases h24 : op = 24
            · subst h24
              clear h16 h14 h15 h17 h23
              go_enter Try.func50, Try.ntmps50
              go_wp2_with fail
              go_ret
              exact ⟨rfl, by (repeat' (first | exact Below.refl _ _ | assumption | refine b_alloc ?_ _ | refine b_over ?_ _ | refine b_drew ?_ | refine b_call ?_ (by assumption)))⟩
            · skip
              by_cases h28 : op = 28
              · subst h28
                clear h16 h14 h15 h17 h23 h24
                go_enter Try.func50, Try.ntmps50
                go_wp2_with fail
                go_ret
                exact ⟨rfl, by (repeat' (first | exact Below.refl _ _ | assumption | refine b_alloc ?_ _ | refine b_over ?_ _ | refine b_drew ?_ | refine b_call ?_ (by assumption)))⟩
              · skip
                by_cases h29 : op = 29
                · subst h29
                  clear h16 h14 h15 h17 h23 h24 h28
                  go_enter Try.func50, Try.ntmps50
                  go_wp2_with fail
                  go_ret
                  exact ⟨rfl, by (repeat' (first | exact Below.refl _ _ | assumption | refine b_alloc ?_ _ | refine b_over ?_ _ | refine b_drew ?_ | refine b_call ?_ (by assumption)))⟩
                · skip
                  by_cases h30 : op = 30
                  · subst h30
                    clear h16 h14 h15 h17 h23 h24 h28 h29
                    go_enter Try.func50, Try.ntmps50
                    go_wp2_with fail
                    go_ret
                    exact ⟨rfl, by (repeat' (first | exact Below.refl _ _ | assumption | refine b_alloc ?_ _ | refine b_over ?_ _ | refine b_drew ?_ | refine b_call ?_ (by assumption)))⟩
                  · skip
                    by_cases h31 : op = 31
                    · subst h31
                      clear h16 h14 h15 h17 h23 h24 h28 h29 h30
                      go_enter Try.func50, Try.ntmps50
                      go_wp2_with fail
                      go_ret
                      exact ⟨rfl, by (repeat' (first | exact Below.refl _ _ | assumption | refine b_alloc ?_ _ | refine b_over ?_ _ | refine b_drew ?_ | refine b_call ?_ (by assumption)))⟩
                    · have HS : Hid (safeB op = false) := Lib.hid (decide_eq_false (by omega))
                      have n16 : (op == 16) = false := beq_false_of_ne h16
                      have n14 : (op == 14) = false := beq_false_of_ne h14
                      have n15 : (op == 15) = false := beq_false_of_ne h15
                      have n17 : (op == 17) = false := beq_false_of_ne h17
                      have n23 : (op == 23) = false := beq_false_of_ne h23
                      have n24 : (op == 24) = false := beq_false_of_ne h24
                      have n28 : (op == 28) = false := beq_false_of_ne h28
                      have n29 : (op == 29) = false := beq_false_of_ne h29
                      have n30 : (op == 30) = false := beq_false_of_ne h30
                      have n31 : (op == 31) = false := beq_false_of_ne h31
                      clear h16 h14 h15 h17 h23 h24 h28 h29 h30 h31
                      go_enter Try.func50, Try.ntmps50
                      go_wp2_with fail
                      go_ret
                      exact ⟨by rw [HS.out]; rfl, by (repeat' (first | exact Below.refl _ _ | assumption | refine b_alloc ?_ _ | refine b_over ?_ _ | refine b_drew ?_ | refine b_call ?_ (by assumption)))⟩
def safeL : List Int := [14, 15, 16, 17, 23, 24, 28, 29, 30, 31]
set_option maxHeartbeats 1000000 in
theorem rsafe_any (op : Int) (w : World) : Calls Try.prog 51 #[.int .i64 op] w fun e w' => e = .returned (.bool (safeB op)) ∧ Below w.heap.size w w' := by
  have HSF : Hid (safeB op = decide (op ∈ safeL)) := Lib.hid (by
    unfold safeB safeL
    simp only [List.mem_cons, List.not_mem_nil, or_false])
  go_enter Try.func51, Try.ntmps51
  go_upto_region 2 with fail
  refine wp_named ?_
  intro W hW
  have H : Hid (ReadI W (.slice (some ⟨w.heap.size, 0, none⟩) safeL.length 10) safeL) := Lib.hid (by rw [hW]; exact readI_lit safeL rfl (by unfold safeL; simp))
  have HB : Hid (Below w.heap.size w W) := Lib.hid (by rw [hW]; exact b_alloc (Below.refl _ _) _)
  have HL : Hid (safeL.length = 10) := Lib.hid rfl
  obtain ⟨xs, hxs⟩ : ∃ xs, xs = safeL := ⟨_, rfl⟩
  rw [← hxs] at H HSF HL
  clear hxs hW
  have hl : (xs.length : Int) = 10 := by have := HL.out; omega
  obtain ⟨n, hn⟩ : ∃ n, n = xs.length := ⟨_, rfl⟩
  have HN := Lib.hid hn
  go_wp2_with fail
  clear hl hn
  go_loopw [7] (fun i wr => ∃ k : Nat, k ≤ 10 ∧ i = .int .i64 k ∧ Hid (∀ j, j < k → xs.getD j 0 ≠ op) ∧ W = wr) (fun i _ => 10 - (intOf i).toNat)
  case atStart => exact ⟨0, Nat.zero_le _, rfl, Lib.hid (fun j hj => absurd hj (Nat.not_lt_zero _)), rfl⟩
  case round =>
    obtain ⟨k, hk, rfl, HI, rfl⟩ := hrel
    have k0 : (0 : Int) ≤ k := by omega
    by_cases hlt : k < 10
    · have k1 : (k : Int) < 10 := by omega
      have hl2 : k < xs.length := by have := HL.out; omega
      obtain ⟨bl, off, cp, e1, r1, r2, hbl, r4⟩ := readI_pos H.out (by omega)
      injection e1 with e1 _ e3
      injection e1 with e1
      injection e1 with e1 e4
      subst e1
      subst e4
      have hcx := r4 k hl2
      have HG : Hid (xs.getD k 0 = xs[k]) := Lib.hid (getD_at hl2 0)
      have HM : Hid (xs[k] ∈ xs) := Lib.hid (List.getElem_mem hl2)
      rw [HG.out, Nat.zero_add] at hcx
      generalize xs[k] = y at *
      clear r4 r1 r2 e3 hl2
      by_cases hxy : y = op
      · have HD : Hid (safeB op = true) := Lib.hid (by rw [HSF.out]; exact decide_eq_true (hxy ▸ HM.out))
        have t : (y == op) = true := by rw [hxy]; simp
        have E := Lib.hid hxy; clear hxy
        go_wp2_with fail
        go_ret
        exact ⟨by rw [HD.out]; rfl, HB.out⟩
      · have t : (y == op) = false := beq_false_of_ne hxy
        have E := Lib.hid hxy; clear hxy
        go_wp2_with fail
        go_roundw
        case rel =>
          refine ⟨k + 1, by omega, by first | rfl | go_num, Lib.hid (fun j hj => ?_), by first | rfl | trivial⟩
          rcases (show j = k ∨ j < k by omega) with rfl | q
          · rw [HG.out]; exact E.out
          · exact HI.out j q
        case measure => simp [intOf]; omega
    · have HD : Hid (safeB op = false) := Lib.hid (by
        rw [HSF.out]
        exact decide_eq_false (fun hm => by
          obtain ⟨j, hj, e⟩ := List.getElem_of_mem hm
          exact HI.out j (by have := HL.out; omega) (by rw [getD_at hj]; exact e)))
      have k1 : ¬ ((k : Int) < 10) := by omega
      go_wp2_with fail
      go_ret
      exact ⟨by rw [HD.out]; rfl, HB.out⟩
end
end Go.Proofs.Ytdmidnmciaediaa
