/- Layer 28: what each call does, of both; in one row each. Conditions: those stated. Layer 28: what Pop, Local, SetLocal, Go do, of both; in one row each. Conditions: those stated. -/
import Derived.Test.YtdmidnmciaediaaWFrH
import Derived.Test.YtdmidnmciaediaaWOursB25
import Derived.Test.YtdmidnmciaediaaWFrm5
namespace Go.Proofs.Ytdmidnmciaediaa
section
open Go.RowKit
set_option linter.unusedVariables false
set_option linter.unusedSimpArgs false
attribute [local go_sem] over_cell over_frozen
variable {w0 w w' : World} {r s : Nat} {p q : PrV} {P : PrM} {L L' : List FrM} {m : FrM} {v0 : World} {n0 : Nat}
/-- The world's first blocks alone. -/
def trunc (w : World) (n : Nat) : World := { w with heap := w.heap.extract 0 n }
theorem trunc_size {w : World} {n : Nat} (h : n ≤ w.heap.size) : (trunc w n).heap.size = n := by simp [trunc]; omega
theorem trunc_at {w : World} {n : Nat} (h : n ≤ w.heap.size) {k : Nat} (hk : k < n) : (trunc w n).heap[k]? = w.heap[k]? := by
  simp only [trunc]
  rw [Array.getElem?_extract]
  simp; omega
theorem trunc_below {w : World} {n : Nat} (h : n ≤ w.heap.size) : Below (trunc w n).heap.size (trunc w n) w :=
  ⟨rfl, rfl, rfl, by rw [trunc_size h]; exact h, fun k hk => by rw [trunc_size h] at hk; exact (trunc_at h hk).symm⟩
theorem madeP_gx {B : Nat} (h : MadeP w B q P) (hg : GrowX w w' (fun j => j = r)) (hr : ∀ T, tyB w r = some T → T = RFS) : MadeP w' B q P := by
  have K : KeepT w w' := ⟨hg.size, fun k hk => hg.block k (by rcases hk with z | z <;> exact tyB_lt z) (fun e => by
    rcases hk with z | z <;> (rw [e] at z; exact absurd (hr _ z) (by decide)))⟩
  obtain ⟨h1, h2, h3, h4, L, h5, h6⟩ := h
  exact ⟨h1, h2, readI_keep K h4 h3, slOk_keep h4 (keepT_ty K (Or.inl rfl)), L, ownR_gx h5 hg (fun k hk e => by
    have z := ownR_ty h5 k hk
    rw [e] at z
    exact absurd (hr _ z) (by decide)), allT_keep K h6⟩
/-- The program's frames; on what they stand may turn elsewhere. -/
def PAt (n0 : Nat) (w : World) (s : Nat) (p : PrV) (P : PrM) (L : List FrM) : Prop := ∃ b0 lw ds B, MadeP b0 B p P ∧ FrsAt b0 w s p lw ds L ∧ n0 ≤ b0.heap.size
def DAt (v0 w : World) (r : Nat) (q : PrV) (L : List FrM) : Prop := ∃ lv, DocF v0 w r q lv L
theorem pat_below (h : PAt n0 w s p P L) (hb : Below w.heap.size w w') : PAt n0 w' s p P L := by
  obtain ⟨b0, lw, ds, B, h1, h2, h3⟩ := h
  exact ⟨b0, lw, ds, B, h1, frs_below h2 hb, h3⟩
theorem dat_below (h : DAt v0 w r q L) (hb : Below w.heap.size w w') : DAt v0 w' r q L := by
  obtain ⟨lv, h⟩ := h
  exact ⟨lv, doc_below h hb⟩
/-- The document's frames turn. -/
theorem pat_doc (h : PAt n0 w s p P L) (hg : GrowX w w' (fun j => j = r)) (hr : tyB w r = some RFS) : PAt n0 w' s p P L := by
  obtain ⟨b0, lw, ds, B, h1, h2, h3⟩ := h
  have hsz : b0.heap.size ≤ w'.heap.size := Nat.le_trans h2.be.size hg.size
  have hne : ∀ k T, tyB w k = some T → T ≠ RFS → ¬ (k = r) := fun k T hk hT e => by subst e; rw [hr] at hk; injection hk with hk; exact hT hk.symm
  have hgb : GrowX b0 (trunc w' b0.heap.size) (fun j => j = r) := ⟨(show (trunc w' b0.heap.size).os = w'.os from rfl).trans (hg.os.trans h2.be.os), (show (trunc w' b0.heap.size).tape = w'.tape from rfl).trans (hg.tape.trans h2.be.tape), (show (trunc w' b0.heap.size).output = w'.output from rfl).trans (hg.output.trans h2.be.output), by rw [trunc_size hsz]; exact Nat.le_refl _, fun k hk hx => by rw [trunc_at hsz hk, hg.block k (Nat.lt_of_lt_of_le hk h2.be.size) hx, h2.be.block k hk]⟩
  have h4 : FrsAt (trunc w' b0.heap.size) w' s p lw ds L := ⟨trunc_below hsz, blk_gx h2.hd hg (hne s FRST h2.ty (by decide)), tyB_gx h2.ty hg (hne s FRST h2.ty (by decide)), by rw [trunc_size hsz]; exact h2.lo, by rw [trunc_size hsz]; exact ownR_gx h2.row hg (fun k hk => hne k FPTT (ownR_ty h2.row k hk) (by decide)), by
    rw [trunc_size hsz]
    exact frAll_gx hg h2.fr (fun d hd => by
      obtain ⟨m, hm⟩ := frAll_mem h2.fr d hd
      exact ⟨hne _ FRMT hm.ty (by decide), fun k hk => hne k VALT (frOk_ty hm k hk) (by decide)⟩), h2.ap⟩
  refine ⟨_, lw, ds, B, madeP_gx h1 hgb (fun T hT => ?_), h4, by rw [trunc_size hsz]; exact h3⟩
  have z := tyB_call hT h2.be
  rw [hr] at z
  injection z with z
  exact z.symm
/-- The program's frames have turned. -/
def FTurn (n0 : Nat) (s : Nat) (p : PrV) (P : PrM) (L' : List FrM) (w w' : World) : Prop := PAt n0 w' s p P L' ∧ GrT w w' ∧ ∀ v0 : World, v0.heap.size ≤ n0 → Below v0.heap.size v0 w → Below v0.heap.size v0 w'
theorem fturn_below (h : PAt n0 w s p P L) (hb : Below w.heap.size w w') : FTurn n0 s p P L w w' := ⟨pat_below h hb, grT_below hb, fun v0 _ h0 => b_call h0 hb⟩
theorem fturn_of {b0 : World} {lw lw' : Sl} {ds ds' : List FrD} {B : Nat} (h1 : MadeP b0 B p P) (h : FrsAt b0 w s p lw ds L) (h3 : n0 ≤ b0.heap.size) (h' : FrsAt b0 w' s p lw' ds' L') (hg : GrT w w') : FTurn n0 s p P L' w w' :=
  ⟨⟨b0, lw', ds', B, h1, h', h3⟩, hg, fun v0 hv hb => ⟨h'.be.os.trans (h.be.os.symm.trans hb.os), h'.be.tape.trans (h.be.tape.symm.trans hb.tape), h'.be.output.trans (h.be.output.symm.trans hb.output), Nat.le_trans hb.size hg.size, fun k hk => by rw [h'.be.block k (by omega), ← h.be.block k (by omega), hb.block k hk]⟩⟩
def DTurn (v0 : World) (r : Nat) (q : PrV) (L' : List FrM) (w w' : World) : Prop := DAt v0 w' r q L' ∧ GrowX w w' (fun j => j = r)
theorem dturn_below (h : DAt v0 w r q L) (hb : Below w.heap.size w w') : DTurn v0 r q L w w' := ⟨dat_below h hb, gx_below hb _⟩
theorem dat_turn (h : DAt v0 w r q L') (ht : FTurn n0 s p P L w w') (hv : v0.heap.size ≤ n0) : DAt v0 w' r q L' := by
  obtain ⟨lv, h⟩ := h
  exact ⟨lv, doc_grT h ht.2.1 (ht.2.2 v0 hv h.be)⟩
theorem pat_turn (h : PAt n0 w s p P L) (hd : DAt v0 w r q L') {L2 : List FrM} (ht : DTurn v0 r q L2 w w') : PAt n0 w' s p P L := by
  obtain ⟨lv, hd⟩ := hd
  exact pat_doc h ht.2 hd.ty
structure FrInv (P : PrM) (m : FrM) : Prop where
  f0 : 0 ≤ m.f
  f1 : m.f < P.fs.length
  k : kindsV m.loc = (P.fs.getD m.f.toNat fz).ps ++ (P.fs.getD m.f.toNat fz).ls
  s : m.stk.length ≤ 16
  a0 : 0 ≤ m.at_
  a1 : m.at_ = 0 ∨ m.at_ < (P.fs.getD m.f.toNat fz).code.length
structure LInv (P : PrM) (L : List FrM) : Prop where
  n : L.length ≤ 24
  m : ∀ m ∈ L, FrInv P m
theorem inv_loc (hS : SmallP P) (h : FrInv P m) : m.loc.length ≤ 20 := by
  have e : m.loc.length = (kindsV m.loc).length := by simp [kindsV]
  have hf : m.f.toNat < P.fs.length := by have := h.f0; have := h.f1; omega
  have z := hS.a _ (List.getElem_mem hf)
  have y := h.k
  rw [getD_at9 hf] at y
  rw [e, y, List.length_append]
  have := z.p; have := z.l
  omega
theorem inv_last (h : LInv P (L ++ [m])) : FrInv P m := h.m m (by simp)
theorem inv_with (h : LInv P (L ++ [m])) {m' : FrM} (h' : FrInv P m') : LInv P (L ++ [m']) := ⟨by have := h.n; rw [List.length_append] at this ⊢; exact this, fun x hx => by
  rcases List.mem_append.1 hx with z | z
  · exact h.m x (by simp [z])
  · rw [List.mem_singleton] at z; rw [z]; exact h'⟩
theorem inv_len (h : LInv P (L ++ [m])) : L.length ≤ 23 := by have := h.n; rw [List.length_append, List.length_singleton] at this; omega
def callM (P : PrM) (L : List FrM) (f : Int) (A : List ValM) : List FrM × Int :=
  if ¬ (0 ≤ f ∧ f < P.fs.length) then (L, 1) else if kindsV A ≠ (P.fs.getD f.toNat fz).ps then (L, 1) else if 24 ≤ L.length then (L, 5) else (L ++ [⟨f, 0, A ++ zeroV (P.fs.getD f.toNat fz).ls, []⟩], 0)
theorem call_inv (h : LInv P L) (f : Int) (A : List ValM) : LInv P (callM P L f A).1 := by
  unfold callM
  by_cases h1 : ¬ (0 ≤ f ∧ f < P.fs.length)
  · rw [if_pos h1]; exact h
  rw [if_neg h1]
  by_cases h2 : kindsV A ≠ (P.fs.getD f.toNat fz).ps
  · rw [if_pos h2]; exact h
  rw [if_neg h2]
  by_cases h3 : 24 ≤ L.length
  · rw [if_pos h3]; exact h
  rw [if_neg h3]
  have h1' := Decidable.not_not.1 h1
  refine ⟨by simp; omega, fun x hx => ?_⟩
  rcases List.mem_append.1 hx with z | z
  · exact h.m x z
  · rw [List.mem_singleton] at z
    subst z
    refine ⟨h1'.1, h1'.2, ?_, by simp, by simp, Or.inl rfl⟩
    have h2' := Decidable.not_not.1 h2
    simp only [kindsV, List.map_append] at h2' ⊢
    rw [h2']
    congr 1
    simp [zeroV]
    exact List.map_id' _
theorem fcall_all {a : Option Addr} {n c : Nat} {A : List ValM} (h : PAt n0 w s p P L) (hS : SmallP P) (hL : LInv P L) (f : Int) (hA : ReadR valE w (.slice a n c) A) (hl : A.length ≤ 100) : Calls Try.prog 18 #[fp s, .int .i64 f, .slice a n c] w (fun e w' => e = .returned (.int .i64 (callM P L f A).2) ∧ FTurn n0 s p P (callM P L f A).1 w w') := by
  have hh := h
  obtain ⟨b0, lw, ds, B, h1, h2, h3⟩ := h
  have hP := madeP_read h1
  unfold callM
  by_cases c1 : ¬ (0 ≤ f ∧ f < P.fs.length)
  · rw [if_pos c1]
    refine (fcall_out h2 hP f _ c1).mono ?_
    rintro e w' ⟨rfl, rfl⟩
    exact ⟨rfl, fturn_below hh (Below.refl _ _)⟩
  rw [if_neg c1]
  obtain ⟨k, hk⟩ : ∃ k : Nat, f = k := ⟨f.toNat, by omega⟩
  subst hk
  have hk : k < P.fs.length := by omega
  rw [Int.toNat_natCast, getD_at9 hk]
  by_cases c2 : kindsV A ≠ P.fs[k].ps
  · rw [if_pos c2]
    refine (fcall_kinds h2 hP hS k hk hA hl c2).mono ?_
    rintro e w' ⟨rfl, hb⟩
    exact ⟨rfl, fturn_below hh hb⟩
  rw [if_neg c2]
  have c2' := Decidable.not_not.1 c2
  by_cases c3 : 24 ≤ L.length
  · rw [if_pos c3]
    refine (fcall_full h2 hP hS k hk hA hl c2' (by have := hL.n; omega)).mono ?_
    rintro e w' ⟨rfl, hb⟩
    exact ⟨rfl, fturn_below hh hb⟩
  rw [if_neg c3]
  refine (fcall_any h2 hP hS k hk hA hl c2' (by omega)).mono ?_
  rintro e w' ⟨rfl, ⟨lw', ds', h5⟩, h6⟩
  exact ⟨rfl, fturn_of h1 h2 h3 h5 h6⟩
theorem rcall_all {a : Option Addr} {n c : Nat} {A : List ValM} (h : DAt v0 w r q L) (hP : ReadP v0 q P) (hS : SmallP P) (hL : LInv P L) (f : Int) (hA : ReadR valE w (.slice a n c) A) : Calls Try.prog 65 #[rp r, .int .i64 f, .slice a n c] w (fun e w' => e = .returned (.int .i64 (callM P L f A).2) ∧ DTurn v0 r q (callM P L f A).1 w w') := by
  have hh := h
  obtain ⟨lv, h⟩ := h
  unfold callM
  by_cases c1 : ¬ (0 ≤ f ∧ f < P.fs.length)
  · rw [if_pos c1]
    refine (rcall_out h hP f _ c1).mono ?_
    rintro e w' ⟨rfl, rfl⟩
    exact ⟨rfl, dturn_below hh (Below.refl _ _)⟩
  rw [if_neg c1]
  obtain ⟨k, hk⟩ : ∃ k : Nat, f = k := ⟨f.toNat, by omega⟩
  subst hk
  have hk : k < P.fs.length := by omega
  rw [Int.toNat_natCast, getD_at9 hk]
  obtain ⟨_, _, eA, _, _⟩ := readR_len hA
  injection eA with _ eA2 _
  by_cases cn : n ≠ P.fs[k].ps.length
  · have c2 : kindsV A ≠ P.fs[k].ps := fun e => cn (by rw [eA2, ← e]; simp [kindsV])
    rw [if_pos c2]
    refine (rcall_len h hP k hk cn).mono ?_
    rintro e w' ⟨rfl, rfl⟩
    exact ⟨rfl, dturn_below hh (Below.refl _ _)⟩
  refine (rcall_any h hP hS k hk hL.n hA (Decidable.not_not.1 cn)).mono ?_
  rintro e w' ⟨z1, z2, z3⟩
  by_cases c2 : kindsV A ≠ P.fs[k].ps
  · rw [if_pos c2]
    obtain ⟨rfl, hb⟩ := z1 c2
    exact ⟨rfl, dturn_below hh hb⟩
  rw [if_neg c2]
  have c2' := Decidable.not_not.1 c2
  by_cases c3 : 24 ≤ L.length
  · rw [if_pos c3]
    obtain ⟨rfl, hb⟩ := z2 c2' c3
    exact ⟨rfl, dturn_below hh hb⟩
  rw [if_neg c3]
  obtain ⟨rfl, hd, hg⟩ := z3 c2' (by omega)
  exact ⟨rfl, ⟨hd, hg.1⟩, hg.2⟩
/-- The frames' last one, of both. -/
theorem frs_split {b0 : World} {lw : Sl} {ds : List FrD} (h : FrsAt b0 w s p lw ds (L ++ [m])) : ∃ ds' d, FrsAt b0 w s p lw (ds' ++ [d]) (L ++ [m]) := by
  obtain ⟨_, hl⟩ := frs_len h
  rcases List.eq_nil_or_concat ds with e | ⟨ds', d, e⟩
  · subst e; simp at hl
  · rw [List.concat_eq_append] at e
    subst e
    exact ⟨ds', d, h⟩
def retM (L : List FrM) : List FrM × Int := if L = [] then (L, 6) else (L.dropLast, 0)
theorem ret_inv (h : LInv P L) : LInv P (retM L).1 := by
  unfold retM
  by_cases e : L = []
  · rw [if_pos e]; exact h
  · rw [if_neg e]
    exact ⟨by have := h.n; simp; omega, fun x hx => h.m x (List.dropLast_subset _ hx)⟩
theorem fret_all (h : PAt n0 w s p P L) : Calls Try.prog 23 #[fp s] w (fun e w' => e = .returned (.int .i64 (retM L).2) ∧ FTurn n0 s p P (retM L).1 w w') := by
  have hh := h
  obtain ⟨b0, lw, ds, B, h1, h2, h3⟩ := h
  rcases List.eq_nil_or_concat L with e | ⟨M, m, e⟩
  · subst e
    have hd : ds = [] := by have := (frs_len h2).2; exact List.eq_nil_of_length_eq_zero (by simpa using this)
    subst hd
    refine (fret_none h2).mono ?_
    rintro e w' ⟨rfl, rfl⟩
    exact ⟨rfl, fturn_below hh (Below.refl _ _)⟩
  · rw [List.concat_eq_append] at e
    subst e
    obtain ⟨ds', d, h4⟩ := frs_split h2
    have e : retM (M ++ [m]) = (M, 0) := by simp [retM]
    rw [e]
    refine (fret_any h4).mono ?_
    rintro e w' ⟨rfl, h5, h6⟩
    exact ⟨rfl, fturn_of h1 h2 h3 h5 (grT_gb h6 (Or.inl h2.ty))⟩
theorem rret_all (h : DAt v0 w r q L) (hL : LInv P L) : Calls Try.prog 66 #[rp r] w (fun e w' => e = .returned (.int .i64 (retM L).2) ∧ DTurn v0 r q (retM L).1 w w') := by
  have hh := h
  obtain ⟨lv, h⟩ := h
  rcases List.eq_nil_or_concat L with e | ⟨M, m, e⟩
  · subst e
    refine (rret_none h).mono ?_
    rintro e w' ⟨rfl, rfl⟩
    exact ⟨rfl, dturn_below hh (Below.refl _ _)⟩
  · rw [List.concat_eq_append] at e
    subst e
    have e : retM (M ++ [m]) = (M, 0) := by simp [retM]
    rw [e]
    refine (rret_any h (by have := inv_len hL; omega)).mono ?_
    rintro e w' ⟨rfl, h5, h6⟩
    exact ⟨rfl, ⟨h5, h6.1⟩, h6.2⟩
def pushM (L : List FrM) (v : ValM) : List FrM × Int := match L.getLast? with
  | none => (L, 6)
  | some m => if 16 ≤ m.stk.length then (L, 5) else (L.dropLast ++ [⟨m.f, m.at_, m.loc, m.stk ++ [v]⟩], 0)
theorem pushM_some (M : List FrM) (m : FrM) (v : ValM) : pushM (M ++ [m]) v = if 16 ≤ m.stk.length then (M ++ [m], 5) else (M ++ [⟨m.f, m.at_, m.loc, m.stk ++ [v]⟩], 0) := by simp [pushM]
theorem push_inv (h : LInv P L) (v : ValM) : LInv P (pushM L v).1 := by
  rcases List.eq_nil_or_concat L with e | ⟨M, m, e⟩
  · subst e; exact h
  · rw [List.concat_eq_append] at e
    subst e
    rw [pushM_some]
    by_cases c : 16 ≤ m.stk.length
    · rw [if_pos c]; exact h
    · rw [if_neg c]
      have z := inv_last h
      exact inv_with h ⟨z.f0, z.f1, z.k, by simp; omega, z.a0, z.a1⟩
theorem fpush_all (h : PAt n0 w s p P L) (hL : LInv P L) (v : ValM) : Calls Try.prog 19 #[fp s, aggV v] w (fun e w' => e = .returned (.int .i64 (pushM L v).2) ∧ FTurn n0 s p P (pushM L v).1 w w') := by
  have hh := h
  obtain ⟨b0, lw, ds, B, h1, h2, h3⟩ := h
  rcases List.eq_nil_or_concat L with e | ⟨M, m, e⟩
  · subst e
    have hd : ds = [] := by have := (frs_len h2).2; exact List.eq_nil_of_length_eq_zero (by simpa using this)
    subst hd
    refine (fpush_none h2 v).mono ?_
    rintro e w' ⟨rfl, hb⟩
    exact ⟨rfl, fturn_below hh hb⟩
  · rw [List.concat_eq_append] at e
    subst e
    obtain ⟨ds', d, h4⟩ := frs_split h2
    rw [pushM_some]
    by_cases c : 16 ≤ m.stk.length
    · rw [if_pos c]
      refine (fpush_full h4 v (by have := (inv_last hL).s; omega)).mono ?_
      rintro e w' ⟨rfl, hb⟩
      exact ⟨rfl, fturn_below hh hb⟩
    · rw [if_neg c]
      refine (fpush_any h4 v (by omega)).mono ?_
      rintro e w' ⟨rfl, ⟨d', h5⟩, h6⟩
      exact ⟨rfl, fturn_of h1 h2 h3 h5 h6⟩
theorem rpush_all (h : DAt v0 w r q L) (hL : LInv P L) (v : ValM) : Calls Try.prog 67 #[rp r, aggV v] w (fun e w' => e = .returned (.int .i64 (pushM L v).2) ∧ DTurn v0 r q (pushM L v).1 w w') := by
  have hh := h
  obtain ⟨lv, h⟩ := h
  rcases List.eq_nil_or_concat L with e | ⟨M, m, e⟩
  · subst e
    refine (rpush_none h v).mono ?_
    rintro e w' ⟨rfl, hb⟩
    exact ⟨rfl, dturn_below hh hb⟩
  · rw [List.concat_eq_append] at e
    subst e
    have hn : M.length ≤ 24 := by have := inv_len hL; omega
    have hs := (inv_last hL).s
    rw [pushM_some]
    by_cases c : 16 ≤ m.stk.length
    · rw [if_pos c]
      refine (rpush_full h hn v c (by omega)).mono ?_
      rintro e w' ⟨rfl, hb⟩
      exact ⟨rfl, dturn_below hh hb⟩
    · rw [if_neg c]
      refine (rpush_any h hn v (by omega)).mono ?_
      rintro e w' ⟨rfl, h5, h6⟩
      exact ⟨rfl, ⟨h5, h6.1⟩, h6.2⟩
end
section
open Go.RowKit
set_option linter.unusedVariables false
set_option linter.unusedSimpArgs false
attribute [local go_sem] over_cell over_frozen
variable {w0 w w' : World} {r s : Nat} {p q : PrV} {P : PrM} {L L' : List FrM} {m : FrM} {v0 : World} {n0 : Nat}

theorem nil_ds {b0 : World} {lw : Sl} {ds : List FrD} (h : FrsAt b0 w s p lw ds []) : ds = [] := by
  have := (frs_len h).2
  exact List.eq_nil_of_length_eq_zero (by simpa using this)
def popM (L : List FrM) : List FrM × ValM × Int := match L.getLast? with
  | none => (L, ⟨0, 0⟩, 6)
  | some m => match m.stk.getLast? with
    | none => (L, ⟨0, 0⟩, 6)
    | some v => (L.dropLast ++ [⟨m.f, m.at_, m.loc, m.stk.dropLast⟩], v, 0)
theorem popM_empty (M : List FrM) {m : FrM} (hm : m.stk = []) : popM (M ++ [m]) = (M ++ [m], ⟨0, 0⟩, 6) := by simp [popM, hm]
theorem popM_some (M : List FrM) {m : FrM} {S : List ValM} {v : ValM} (hm : m.stk = S ++ [v]) : popM (M ++ [m]) = (M ++ [⟨m.f, m.at_, m.loc, S⟩], v, 0) := by simp [popM, hm]
theorem pop_inv (h : LInv P L) : LInv P (popM L).1 := by
  rcases List.eq_nil_or_concat L with e | ⟨M, m, e⟩
  · subst e; exact h
  · rw [List.concat_eq_append] at e
    subst e
    rcases List.eq_nil_or_concat m.stk with c | ⟨S, v, c⟩
    · rw [popM_empty M c]; exact h
    · rw [List.concat_eq_append] at c
      rw [popM_some M c]
      have z := inv_last h
      have y := z.s
      rw [c, List.length_append] at y
      exact inv_with h ⟨z.f0, z.f1, z.k, by show S.length ≤ 16; omega, z.a0, z.a1⟩
theorem fpop_all (h : PAt n0 w s p P L) : Calls Try.prog 22 #[fp s] w (fun e w' => e = .returned (.tuple #[aggV (popM L).2.1, .int .i64 (popM L).2.2]) ∧ FTurn n0 s p P (popM L).1 w w') := by
  have hh := h
  obtain ⟨b0, lw, ds, B, h1, h2, h3⟩ := h
  rcases List.eq_nil_or_concat L with e | ⟨M, m, e⟩
  · subst e
    obtain rfl := nil_ds h2
    refine (fpop_none h2).mono ?_
    rintro e w' ⟨rfl, hb⟩
    exact ⟨rfl, fturn_below hh hb⟩
  · rw [List.concat_eq_append] at e
    subst e
    obtain ⟨ds', d, h4⟩ := frs_split h2
    rcases List.eq_nil_or_concat m.stk with c | ⟨S, v, c⟩
    · rw [popM_empty M c]
      refine (fpop_empty h4 c).mono ?_
      rintro e w' ⟨rfl, hb⟩
      exact ⟨rfl, fturn_below hh hb⟩
    · rw [List.concat_eq_append] at c
      rw [popM_some M c]
      refine (fpop_any h4 c).mono ?_
      rintro e w' ⟨rfl, h5, h6⟩
      exact ⟨rfl, fturn_of h1 h2 h3 h5 h6⟩
theorem rpop_all (h : DAt v0 w r q L) (hL : LInv P L) : Calls Try.prog 68 #[rp r] w (fun e w' => e = .returned (.tuple #[aggV (popM L).2.1, .int .i64 (popM L).2.2]) ∧ DTurn v0 r q (popM L).1 w w') := by
  have hh := h
  obtain ⟨lv, h⟩ := h
  rcases List.eq_nil_or_concat L with e | ⟨M, m, e⟩
  · subst e
    refine (rpop_none h).mono ?_
    rintro e w' ⟨rfl, hb⟩
    exact ⟨rfl, dturn_below hh hb⟩
  · rw [List.concat_eq_append] at e
    subst e
    have hn : M.length ≤ 24 := by have := inv_len hL; omega
    have hs := (inv_last hL).s
    rcases List.eq_nil_or_concat m.stk with c | ⟨S, v, c⟩
    · rw [popM_empty M c]
      refine (rpop_empty h hn (by rw [c]; rfl)).mono ?_
      rintro e w' ⟨rfl, hb⟩
      exact ⟨rfl, dturn_below hh hb⟩
    · rw [List.concat_eq_append] at c
      rw [popM_some M c]
      refine (rpop_any h hn c (by rw [c, List.length_append] at hs; omega)).mono ?_
      rintro e w' ⟨rfl, h5, h6⟩
      exact ⟨rfl, ⟨h5, h6.1⟩, h6.2⟩
theorem locM_some (M : List FrM) (m : FrM) (k : Int) : locM (M ++ [m]) k = if 0 ≤ k ∧ k < m.loc.length then (m.loc.getD k.toNat ⟨0, 0⟩, 0) else (⟨0, 0⟩, 3) := by simp [locM]
theorem flocal_all (h : PAt n0 w s p P L) (k : Int) : Calls Try.prog 35 #[fp s, .int .i64 k] w (fun e w' => e = .returned (.tuple #[aggV (locM L k).1, .int .i64 (locM L k).2]) ∧ Below w.heap.size w w') := by
  obtain ⟨b0, lw, ds, B, h1, h2, h3⟩ := h
  rcases List.eq_nil_or_concat L with e | ⟨M, m, e⟩
  · subst e
    obtain rfl := nil_ds h2
    exact flocal_none h2 k
  · rw [List.concat_eq_append] at e
    subst e
    obtain ⟨ds', d, h4⟩ := frs_split h2
    rw [locM_some]
    by_cases c : 0 ≤ k ∧ k < m.loc.length
    · rw [if_pos c]
      obtain ⟨j, hj⟩ : ∃ j : Nat, k = j := ⟨k.toNat, by omega⟩
      subst hj
      have hj : j < m.loc.length := by omega
      simp only [Int.toNat_natCast]
      rw [getD_at9 hj]
      exact flocal_any h4 j hj
    · rw [if_neg c]
      exact flocal_out h4 k c
def setM (L : List FrM) (k : Int) (v : ValM) : List FrM × Int := match L.getLast? with
  | none => (L, 6)
  | some m => if ¬ (0 ≤ k ∧ k < m.loc.length) then (L, 3) else if (m.loc.getD k.toNat ⟨0, 0⟩).k ≠ v.k then (L, 1) else (L.dropLast ++ [⟨m.f, m.at_, m.loc.set k.toNat v, m.stk⟩], 0)
theorem setM_some (M : List FrM) (m : FrM) (k : Int) (v : ValM) : setM (M ++ [m]) k v = if ¬ (0 ≤ k ∧ k < m.loc.length) then (M ++ [m], 3) else if (m.loc.getD k.toNat ⟨0, 0⟩).k ≠ v.k then (M ++ [m], 1) else (M ++ [⟨m.f, m.at_, m.loc.set k.toNat v, m.stk⟩], 0) := by simp [setM]
theorem kinds_set {l : List ValM} {k : Nat} (hk : k < l.length) {v : ValM} (h : l[k].k = v.k) : kindsV (l.set k v) = kindsV l := by
  unfold kindsV
  rw [List.map_set, ← h]
  refine List.ext_getElem (by simp) (fun i h1 h2 => ?_)
  rw [List.getElem_set]
  by_cases e : k = i
  · subst e; simp
  · simp [e]
theorem set_inv (h : LInv P L) (k : Int) (v : ValM) : LInv P (setM L k v).1 := by
  rcases List.eq_nil_or_concat L with e | ⟨M, m, e⟩
  · subst e; exact h
  · rw [List.concat_eq_append] at e
    subst e
    rw [setM_some]
    by_cases c : ¬ (0 ≤ k ∧ k < m.loc.length)
    · rw [if_pos c]; exact h
    rw [if_neg c]
    by_cases c2 : (m.loc.getD k.toNat ⟨0, 0⟩).k ≠ v.k
    · rw [if_pos c2]; exact h
    rw [if_neg c2]
    have hk : k.toNat < m.loc.length := by have := Decidable.not_not.1 c; omega
    have z := inv_last h
    have e2 := Decidable.not_not.1 c2
    rw [getD_at9 hk] at e2
    exact inv_with h ⟨z.f0, z.f1, by show kindsV (m.loc.set k.toNat v) = _; rw [kinds_set hk e2]; exact z.k, z.s, z.a0, z.a1⟩
theorem fset_all (h : PAt n0 w s p P L) (k : Int) (v : ValM) : Calls Try.prog 37 #[fp s, .int .i64 k, aggV v] w (fun e w' => e = .returned (.int .i64 (setM L k v).2) ∧ FTurn n0 s p P (setM L k v).1 w w') := by
  have hh := h
  obtain ⟨b0, lw, ds, B, h1, h2, h3⟩ := h
  rcases List.eq_nil_or_concat L with e | ⟨M, m, e⟩
  · subst e
    obtain rfl := nil_ds h2
    refine (fset_none h2 k v).mono ?_
    rintro e w' ⟨rfl, hb⟩
    exact ⟨rfl, fturn_below hh hb⟩
  · rw [List.concat_eq_append] at e
    subst e
    obtain ⟨ds', d, h4⟩ := frs_split h2
    rw [setM_some]
    by_cases c : ¬ (0 ≤ k ∧ k < m.loc.length)
    · rw [if_pos c]
      refine (fset_out h4 k c v).mono ?_
      rintro e w' ⟨rfl, hb⟩
      exact ⟨rfl, fturn_below hh hb⟩
    rw [if_neg c]
    obtain ⟨j, hj⟩ : ∃ j : Nat, k = j := ⟨k.toNat, by omega⟩
    subst hj
    have hj : j < m.loc.length := by omega
    rw [Int.toNat_natCast, getD_at9 hj]
    by_cases c2 : m.loc[j].k ≠ v.k
    · rw [if_pos c2]
      refine (fset_kind h4 j hj v c2).mono ?_
      rintro e w' ⟨rfl, hb⟩
      exact ⟨rfl, fturn_below hh hb⟩
    rw [if_neg c2]
    refine (fset_any h4 j hj v (Decidable.not_not.1 c2)).mono ?_
    rintro e w' ⟨rfl, h5, h6⟩
    exact ⟨rfl, fturn_of h1 h2 h3 h5 h6⟩
theorem rset_all (h : DAt v0 w r q L) (hS : SmallP P) (hL : LInv P L) (k : Int) (v : ValM) : Calls Try.prog 71 #[rp r, .int .i64 k, aggV v] w (fun e w' => e = .returned (.int .i64 (setM L k v).2) ∧ DTurn v0 r q (setM L k v).1 w w') := by
  have hh := h
  obtain ⟨lv, h⟩ := h
  rcases List.eq_nil_or_concat L with e | ⟨M, m, e⟩
  · subst e
    refine (rset_none h k v).mono ?_
    rintro e w' ⟨rfl, hb⟩
    exact ⟨rfl, dturn_below hh hb⟩
  · rw [List.concat_eq_append] at e
    subst e
    have hn : M.length ≤ 24 := by have := inv_len hL; omega
    have hlo := inv_loc hS (inv_last hL)
    rw [setM_some]
    by_cases c : ¬ (0 ≤ k ∧ k < m.loc.length)
    · rw [if_pos c]
      refine (rset_out h hn k c v).mono ?_
      rintro e w' ⟨rfl, hb⟩
      exact ⟨rfl, dturn_below hh hb⟩
    rw [if_neg c]
    obtain ⟨j, hj⟩ : ∃ j : Nat, k = j := ⟨k.toNat, by omega⟩
    subst hj
    have hj : j < m.loc.length := by omega
    rw [Int.toNat_natCast, getD_at9 hj]
    by_cases c2 : m.loc[j].k ≠ v.k
    · rw [if_pos c2]
      refine (rset_kind h hn j hj v c2).mono ?_
      rintro e w' ⟨rfl, hb⟩
      exact ⟨rfl, dturn_below hh hb⟩
    rw [if_neg c2]
    refine (rset_any h hn j hj v (Decidable.not_not.1 c2) (by omega)).mono ?_
    rintro e w' ⟨rfl, h5, h6⟩
    exact ⟨rfl, ⟨h5, h6.1⟩, h6.2⟩
def goM (P : PrM) (L : List FrM) (a : Int) : List FrM × Int := match L.getLast? with
  | none => (L, 6)
  | some m => if ¬ (0 ≤ a ∧ a < (P.fs.getD m.f.toNat fz).code.length) then (L, 3) else (L.dropLast ++ [⟨m.f, a, m.loc, m.stk⟩], 0)
theorem goM_some (M : List FrM) (m : FrM) (a : Int) : goM P (M ++ [m]) a = if ¬ (0 ≤ a ∧ a < (P.fs.getD m.f.toNat fz).code.length) then (M ++ [m], 3) else (M ++ [⟨m.f, a, m.loc, m.stk⟩], 0) := by simp [goM]
theorem go_inv (h : LInv P L) (a : Int) : LInv P (goM P L a).1 := by
  rcases List.eq_nil_or_concat L with e | ⟨M, m, e⟩
  · subst e; exact h
  · rw [List.concat_eq_append] at e
    subst e
    rw [goM_some]
    by_cases c : ¬ (0 ≤ a ∧ a < (P.fs.getD m.f.toNat fz).code.length)
    · rw [if_pos c]; exact h
    rw [if_neg c]
    have z := inv_last h
    have y := Decidable.not_not.1 c
    exact inv_with h ⟨z.f0, z.f1, z.k, z.s, y.1, Or.inr y.2⟩
theorem fgo_all (h : PAt n0 w s p P L) (hS : SmallP P) (hL : LInv P L) (a : Int) : Calls Try.prog 38 #[fp s, .int .i64 a] w (fun e w' => e = .returned (.int .i64 (goM P L a).2) ∧ FTurn n0 s p P (goM P L a).1 w w') := by
  have hh := h
  obtain ⟨b0, lw, ds, B, h1, h2, h3⟩ := h
  rcases List.eq_nil_or_concat L with e | ⟨M, m, e⟩
  · subst e
    obtain rfl := nil_ds h2
    refine (fgo_none h2 a).mono ?_
    rintro e w' ⟨rfl, hb⟩
    exact ⟨rfl, fturn_below hh hb⟩
  · rw [List.concat_eq_append] at e
    subst e
    obtain ⟨ds', d, h4⟩ := frs_split h2
    have z := inv_last hL
    obtain ⟨k, hk⟩ : ∃ k : Nat, m.f = k := ⟨m.f.toNat, by have := z.f0; omega⟩
    have hk2 : k < P.fs.length := by have := z.f1; omega
    have hcl := (hS.a _ (List.getElem_mem hk2)).c
    rw [goM_some, hk, Int.toNat_natCast, getD_at9 hk2]
    by_cases c : ¬ (0 ≤ a ∧ a < P.fs[k].code.length)
    · rw [if_pos c]
      refine (fgo_out h4 (madeP_read h1) k hk2 hk a hcl c).mono ?_
      rintro e w' ⟨rfl, hb⟩
      exact ⟨rfl, fturn_below hh hb⟩
    rw [if_neg c]
    have y := Decidable.not_not.1 c
    refine (fgo_any h4 (madeP_read h1) k hk2 hk a hcl y.1 y.2).mono ?_
    rintro e w' ⟨rfl, h5, h6⟩
    rw [← hk]
    exact ⟨rfl, fturn_of h1 h2 h3 h5 h6⟩
theorem rgo_all (h : DAt v0 w r q L) (hP : ReadP v0 q P) (hS : SmallP P) (hL : LInv P L) (a : Int) : Calls Try.prog 72 #[rp r, .int .i64 a] w (fun e w' => e = .returned (.int .i64 (goM P L a).2) ∧ DTurn v0 r q (goM P L a).1 w w') := by
  have hh := h
  obtain ⟨lv, h⟩ := h
  rcases List.eq_nil_or_concat L with e | ⟨M, m, e⟩
  · subst e
    refine (rgo_none h a).mono ?_
    rintro e w' ⟨rfl, hb⟩
    exact ⟨rfl, dturn_below hh hb⟩
  · rw [List.concat_eq_append] at e
    subst e
    have hn : M.length ≤ 24 := by have := inv_len hL; omega
    have z := inv_last hL
    obtain ⟨k, hk⟩ : ∃ k : Nat, m.f = k := ⟨m.f.toNat, by have := z.f0; omega⟩
    have hk2 : k < P.fs.length := by have := z.f1; omega
    have hcl := (hS.a _ (List.getElem_mem hk2)).c
    rw [goM_some, hk, Int.toNat_natCast, getD_at9 hk2]
    by_cases c : ¬ (0 ≤ a ∧ a < P.fs[k].code.length)
    · rw [if_pos c]
      refine (rgo_out h hP hn k hk2 hk a hcl c).mono ?_
      rintro e w' ⟨rfl, hb⟩
      exact ⟨rfl, dturn_below hh hb⟩
    rw [if_neg c]
    have y := Decidable.not_not.1 c
    refine (rgo_any h hP hn k hk2 hk a hcl y.1 y.2).mono ?_
    rintro e w' ⟨rfl, h5, h6⟩
    rw [← hk]
    exact ⟨rfl, ⟨h5, h6.1⟩, h6.2⟩
theorem lfit_any (h : DAt v0 w r q L) (hP : ReadP v0 q P) (hS : SmallP P) (hL : LInv P L) (o : OpM) {a : Option Addr} {c : Nat} (ha : ReadR valE w (.slice a o.args.length c) o.args) : Calls Try.prog 63 #[rp r, aggOp o.kind o.f o.k o.v a o.args.length c o.fit] w (FitEnd w a c o.args (fitM P L o)) := by
  obtain ⟨lv, h⟩ := h
  cases hf : o.fit with
  | false =>
    have e : fitM P L o = o := by unfold fitM; rw [if_pos hf]
    rw [e]
    have z := lfit_no h o ha hf
    rw [hf] at z
    exact z
  | true =>
    have key : Calls Try.prog 63 #[rp r, aggOp o.kind o.f o.k o.v a o.args.length c o.fit] w (FitEnd w a c o.args (fitM P L o)) := by
      by_cases c0 : o.kind ≠ 0
      · exact lfit_n0 h hP hL.n o ha hf c0
      have c0' := Decidable.not_not.1 c0
      by_cases c1 : o.f < 0
      · exact lfit_n1 h hP hL.n o ha hf ⟨c0', c1⟩
      by_cases c2 : (P.fs.length : Int) ≤ o.f
      · exact lfit_n2 h hP hL.n o ha hf ⟨c0', by omega, c2⟩
      exact lfit_call h hP hS hL.n o ha hf o.f.toNat (by omega) c0' (by omega)
    rw [hf] at key
    exact key
theorem fitM_args (hS : SmallP P) (o : OpM) (h : o.args.length ≤ 10) : (fitM P L o).args.length ≤ 10 := by
  unfold fitM
  by_cases c : o.fit = false
  · rw [if_pos c]; exact h
  rw [if_neg c]
  show (if o.kind = 0 ∧ 0 ≤ o.f ∧ o.f < P.fs.length then fitA (P.fs.getD o.f.toNat fz).ps o.args else o.args).length ≤ 10
  by_cases c2 : o.kind = 0 ∧ 0 ≤ o.f ∧ o.f < P.fs.length
  · rw [if_pos c2, fitA_length]
    have hk : o.f.toNat < P.fs.length := by omega
    rw [getD_at9 hk]
    exact (hS.a _ (List.getElem_mem hk)).p
  · rw [if_neg c2]; exact h
theorem fitM_kind (o : OpM) : (fitM P L o).kind = o.kind ∧ (fitM P L o).f = o.f ∧ (fitM P L o).k = o.k ∧ (fitM P L o).fit = o.fit := by
  unfold fitM
  by_cases c : o.fit = false
  · rw [if_pos c]; exact ⟨rfl, rfl, rfl, rfl⟩
  · rw [if_neg c]; exact ⟨rfl, rfl, rfl, rfl⟩
end
end Go.Proofs.Ytdmidnmciaediaa
