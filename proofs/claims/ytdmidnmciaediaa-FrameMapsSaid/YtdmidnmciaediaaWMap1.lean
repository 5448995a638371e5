/- Layer 27: facts in memory; the contracts of the document's Met and the program's fact. Conditions: what is asked reads as lists. Layer 27: the contracts of the places of references, of Same, of Of. Conditions: what is asked reads as lists. -/
import Derived.Test.YtdmidnmciaediaaWVerX
import Derived.BigQuiet
import Derived.Deep.RegionLawGrows
namespace Go.Proofs.Ytdmidnmciaediaa
section
open Go.RowKit
set_option linter.unusedVariables false
set_option linter.unusedSimpArgs false
attribute [local go_sem] over_cell over_frozen
/-- A row of slices, wherever they lie. -/
def rsE : Elt Sl where
  cells := fun s => [.slice s.a s.n s.c]
  size := 1
  pos := by decide
  len := fun _ => rfl
  one := fun r u hu => by
    simp only [List.mem_cons, List.not_mem_nil, or_false] at hu
    subst hu; rfl
abbrev FxM : Type := List (List (Bool × List Int))
def FacL (w : World) (s : Sl) (l : List (Bool × List Int)) : Prop := ∃ F : List (Bool × Sl), ReadR factE w s.v F ∧ F.length = l.length ∧ ∀ k, (h : k < F.length) → (h' : k < l.length) → F[k].1 = l[k].1 ∧ ReadI w F[k].2.v l[k].2
def FacR (w : World) (v : Value) (Fx : FxM) : Prop := ∃ L : List Sl, ReadR rsE w v L ∧ L.length = Fx.length ∧ ∀ k, (h : k < L.length) → (h' : k < Fx.length) → FacL w L[k] Fx[k]
theorem facL_below {w w' : World} {s : Sl} {l : List (Bool × List Int)} (h : FacL w s l) (hb : Below w.heap.size w w') : FacL w' s l := by
  obtain ⟨F, h1, h2, h3⟩ := h
  exact ⟨F, readR_below h1 hb, h2, fun k hk hk' => ⟨(h3 k hk hk').1, readI_below (h3 k hk hk').2 hb⟩⟩
theorem facR_below {w w' : World} {v : Value} {Fx : FxM} (h : FacR w v Fx) (hb : Below w.heap.size w w') : FacR w' v Fx := by
  obtain ⟨L, h1, h2, h3⟩ := h
  exact ⟨L, readR_below h1 hb, h2, fun k hk hk' => facL_below (h3 k hk hk') hb⟩
theorem facR_form {w : World} {v : Value} {Fx : FxM} (h : FacR w v Fx) : ∃ a c, v = .slice a Fx.length c ∧ Fx.length ≤ c ∧ (c : Int) ≤ 9223372036854775807 := by
  obtain ⟨L, h1, h2, _⟩ := h
  obtain ⟨a, cap, e, h3, h4⟩ := readR_len h1
  exact ⟨a, cap, by rw [e, h2], by omega, by unfold maxLen at h4; omega⟩
theorem facL_form {w : World} {s : Sl} {l : List (Bool × List Int)} (h : FacL w s l) : s.n = l.length ∧ l.length ≤ s.c ∧ (s.c : Int) ≤ 9223372036854775807 := by
  obtain ⟨F, h1, h2, _⟩ := h
  obtain ⟨a, cap, e, h3, h4⟩ := readR_len h1
  have e : Value.slice s.a s.n s.c = .slice a F.length cap := e
  injection e with _ e2 e3
  exact ⟨by omega, by omega, by unfold maxLen at h4; omega⟩
theorem facR_at {w : World} {a : Option Addr} {n c : Nat} {Fx : FxM} (h : FacR w (.slice a n c) Fx) {f : Nat} (hf : f < Fx.length) : ∃ b o, ∃ s : Sl, a = some ⟨b, o, none⟩ ∧ b < w.heap.size ∧ w.cell? ⟨b, o + f, none⟩ = some (.slice s.a s.n s.c) ∧ FacL w s Fx[f] := by
  obtain ⟨L, h1, h2, h3⟩ := h
  obtain ⟨b, o, cap, e, _, _, h5, h4⟩ := readR_pos h1 (by omega)
  injection e with e1 _ _
  have hfL : f < L.length := by omega
  have z := h4 f hfL 0 (by decide)
  have e2 : o + (f * rsE.size + 0) = o + f := by show o + (f * 1 + 0) = o + f; omega
  rw [e2] at z
  exact ⟨b, o, L[f], e1, h5, z, h3 f hfL hf⟩
theorem facL_at {w : World} {s : Sl} {l : List (Bool × List Int)} (h : FacL w s l) {k : Nat} (hk : k < l.length) : ∃ b o, ∃ v : Sl, s.a = some ⟨b, o, none⟩ ∧ b < w.heap.size ∧ w.cell? ⟨b, o + k * 2, none⟩ = some (.bool l[k].1) ∧ w.cell? ⟨b, o + k * 2 + 1, none⟩ = some (.slice v.a v.n v.c) ∧ ReadI w v.v l[k].2 := by
  obtain ⟨F, h1, h2, h3⟩ := h
  obtain ⟨b, o, cap, e, _, _, h5, h4⟩ := readR_pos h1 (by omega)
  have e : Value.slice s.a s.n s.c = .slice (some ⟨b, o, none⟩) F.length cap := e
  injection e with e1 _ _
  have hkF : k < F.length := by omega
  obtain ⟨q1, q2⟩ := h3 k hkF hk
  have z0 := h4 k hkF 0 (by decide)
  have z1 := h4 k hkF 1 (by decide)
  have e2 : o + (k * factE.size + 0) = o + k * 2 := by show o + (k * 2 + 0) = _; omega
  have e3 : o + (k * factE.size + 1) = o + k * 2 + 1 := by show o + (k * 2 + 1) = _; omega
  rw [e2] at z0
  rw [e3] at z1
  have z0 : w.cell? ⟨b, o + k * 2, none⟩ = some (.bool F[k].1) := z0
  rw [q1] at z0
  exact ⟨b, o, F[k].2, e1, h5, z0, z1, q2⟩
def factM (Fx : FxM) (i j : Nat) : Bool × List Int := (Fx.getD i []).getD j (false, [])
def metB (P : PrM) (Fx : FxM) (f a : Int) : Bool := if 0 ≤ f ∧ f < P.fs.length ∧ f < Fx.length ∧ 0 ≤ a ∧ a < (P.fs.getD f.toNat fzM).code.length ∧ a < (Fx.getD f.toNat []).length then (factM Fx f.toNat a.toNat).1 else false
theorem metB_at {P : PrM} {Fx : FxM} {i j : Nat} (h1 : i < P.fs.length) (h2 : i < Fx.length) (h3 : j < (P.fs.getD i fzM).code.length) (h4 : j < (Fx.getD i []).length) : metB P Fx i j = (factM Fx i j).1 := by
  unfold metB
  rw [if_pos ⟨by omega, by omega, by omega, by omega, by show ((j : Int)) < ((P.fs.getD i fzM).code.length : Int); omega, by show ((j : Int)) < ((Fx.getD i []).length : Int); omega⟩]
  rfl
theorem metB_no {P : PrM} {Fx : FxM} {f a : Int} (h : ¬ (0 ≤ f ∧ f < P.fs.length ∧ f < Fx.length ∧ 0 ≤ a ∧ a < (P.fs.getD f.toNat fzM).code.length ∧ a < (Fx.getD f.toNat []).length)) : metB P Fx f a = false := by
  unfold metB; rw [if_neg h]
theorem getD_at {α : Type} {l : List α} {k : Nat} (h : k < l.length) (d : α) : l.getD k d = l[k] := by rw [List.getD_eq_getElem?_getD, List.getElem?_eq_getElem h]; rfl
/-- The seven ways. -/
theorem at_cases (P : PrM) (Fx : FxM) (f a : Int) : f < 0 ∨ ∃ i : Nat, f = i ∧ (P.fs.length ≤ i ∨ (∃ hi : i < P.fs.length, (Fx.length ≤ i ∨ (∃ hx : i < Fx.length, (a < 0 ∨ ∃ j : Nat, a = j ∧ ((P.fs[i]).code.length ≤ j ∨ (∃ hj : j < (P.fs[i]).code.length, ((Fx[i]).length ≤ j ∨ j < (Fx[i]).length)))))))) := by
  rcases (show f < 0 ∨ 0 ≤ f by omega) with h | h
  · exact Or.inl h
  · refine Or.inr ⟨f.toNat, by omega, ?_⟩
    by_cases h1 : P.fs.length ≤ f.toNat
    · exact Or.inl h1
    · refine Or.inr ⟨by omega, ?_⟩
      by_cases h2 : Fx.length ≤ f.toNat
      · exact Or.inl h2
      · refine Or.inr ⟨by omega, ?_⟩
        rcases (show a < 0 ∨ 0 ≤ a by omega) with h3 | h3
        · exact Or.inl h3
        · refine Or.inr ⟨a.toNat, by omega, ?_⟩
          by_cases h4 : (P.fs[f.toNat]).code.length ≤ a.toNat
          · exact Or.inl h4
          · refine Or.inr ⟨by omega, ?_⟩
            by_cases h5 : (Fx[f.toNat]).length ≤ a.toNat
            · exact Or.inl h5
            · exact Or.inr (by omega)
set_option maxRecDepth 100000 in
set_option maxHeartbeats 2000000 in
theorem rmet_any (p : PrV) (P : PrM) (v : Value) (Fx : FxM) (f a : Int) (w : World) (h : ReadP w p P) (hf : FacR w v Fx) : Calls Try.prog 54 #[aggP p, v, .int .i64 f, .int .i64 a] w fun e w' => e = .returned (.bool (metB P Fx f a)) ∧ Below w.heap.size w w' := by
  obtain ⟨n1, n2, n3⟩ := fn_len h
  obtain ⟨va, vc, rfl, m2, m3⟩ := facR_form hf
  obtain ⟨B, hB⟩ : ∃ B, B = metB P Fx f a := ⟨_, rfl⟩
  rw [← hB]
  have HBB := Lib.hid hB
  have HR := Lib.hid h; have HF := Lib.hid hf
  obtain ⟨u, ⟨ga, gn, gc⟩, m0, ⟨fa, fn, fc⟩⟩ := p
  simp only at n1 n2 n3
  subst n1
  have n4 : (P.fs.length : Int) ≤ fc := by omega
  have m4 : (Fx.length : Int) ≤ vc := by omega
  clear h hf hB n2 m2
  unfold aggP Sl.v
  simp only
  have NO : Hid (¬ (0 ≤ f ∧ f < P.fs.length ∧ f < Fx.length ∧ 0 ≤ a ∧ a < (P.fs.getD f.toNat fzM).code.length ∧ a < (Fx.getD f.toNat []).length) → B = false) := Lib.hid (fun z => by rw [HBB.out]; exact metB_no z)
  rcases at_cases P Fx f a with q | ⟨i, rfl, q | ⟨hi, q⟩⟩
  · have e : B = false := NO.out (by omega)
    subst e
    clear NO HBB
    go_enter Try.func54, Try.ntmps54
    go_wp2_with fail
    go_ret
    exact ⟨rfl, by (repeat' (first | exact Below.refl _ _ | assumption | refine b_alloc ?_ _ | refine b_over ?_ _ | refine b_drew ?_ | refine b_call ?_ (by assumption)))⟩
  · have e : B = false := NO.out (by omega)
    subst e
    have q1 : ¬ ((i : Int) < P.fs.length) := by omega
    have i0 : (0 : Int) ≤ i := by omega
    clear NO HBB q
    go_enter Try.func54, Try.ntmps54
    go_wp2_with fail
    go_ret
    exact ⟨rfl, by (repeat' (first | exact Below.refl _ _ | assumption | refine b_alloc ?_ _ | refine b_over ?_ _ | refine b_drew ?_ | refine b_call ?_ (by assumption)))⟩
  · have i0 : (0 : Int) ≤ i := by omega
    have i1 : (i : Int) < P.fs.length := by omega
    have ic : (i : Int) < fc := by omega
    rcases q with q | ⟨hx, q⟩
    · have e : B = false := NO.out (by omega)
      subst e
      have q1 : ¬ ((i : Int) < Fx.length) := by omega
      clear NO HBB q
      go_enter Try.func54, Try.ntmps54
      go_wp2_with fail
      go_ret
      exact ⟨rfl, by (repeat' (first | exact Below.refl _ _ | assumption | refine b_alloc ?_ _ | refine b_over ?_ _ | refine b_drew ?_ | refine b_call ?_ (by assumption)))⟩
    · have x1 : (i : Int) < Fx.length := by omega
      have xc : (i : Int) < vc := by omega
      obtain ⟨b2, o2, ea, hb2, v, hd, _, _, _, e3⟩ := fn_at HR.out hi
      simp only at ea
      subst ea
      obtain ⟨_, cap9, ec, hcc1, hcc2⟩ := readR_len hd.c
      have ec2 : Value.slice v.c.a v.c.n v.c.c = .slice _ P.fs[i].code.length cap9 := ec
      injection ec2 with ec3 ec4 ec5
      rw [ec4] at e3
      obtain ⟨b1, o1, s, rfl, hb1, hc1, hl1⟩ := facR_at HF.out hx
      obtain ⟨sn, sc1, sc2⟩ := facL_form hl1
      rw [sn] at hc1
      have hgP : P.fs.getD i fzM = P.fs[i] := getD_at hi _
      have hgF : Fx.getD i [] = Fx[i] := getD_at hx _
      rcases q with q | ⟨j, rfl, q | ⟨hj, q⟩⟩
      · have e : B = false := NO.out (by omega)
        subst e
        clear NO HBB hcc1 hcc2 ec ec3 ec4 ec5 sn sc1 sc2 hgP hgF
        go_enter Try.func54, Try.ntmps54
        go_wp2_with fail
        go_ret
        exact ⟨rfl, by (repeat' (first | exact Below.refl _ _ | assumption | refine b_alloc ?_ _ | refine b_over ?_ _ | refine b_drew ?_ | refine b_call ?_ (by assumption)))⟩
      · have e : B = false := NO.out (by rw [show ((i : Int).toNat) = i from rfl, hgP]; omega)
        subst e
        have q1 : ¬ ((j : Int) < P.fs[i].code.length) := by omega
        have j0 : (0 : Int) ≤ j := by omega
        generalize P.fs[i].code.length = N at *
        clear NO HBB hcc1 hcc2 ec ec3 ec4 ec5 sn sc1 sc2 hgP hgF q
        go_enter Try.func54, Try.ntmps54
        go_wp2_with fail
        go_ret
        exact ⟨rfl, by (repeat' (first | exact Below.refl _ _ | assumption | refine b_alloc ?_ _ | refine b_over ?_ _ | refine b_drew ?_ | refine b_call ?_ (by assumption)))⟩
      · have j0 : (0 : Int) ≤ j := by omega
        have j1 : (j : Int) < P.fs[i].code.length := by omega
        rcases q with q | q
        · have e : B = false := NO.out (by rw [show ((i : Int).toNat) = i from rfl, hgF]; omega)
          subst e
          have q1 : ¬ ((j : Int) < Fx[i].length) := by omega
          generalize P.fs[i].code.length = N at *
          generalize Fx[i].length = M at *
          clear NO HBB hcc1 hcc2 ec ec3 ec4 ec5 sn sc1 sc2 hgP hgF q
          go_enter Try.func54, Try.ntmps54
          go_wp2_with fail
          go_ret
          exact ⟨rfl, by (repeat' (first | exact Below.refl _ _ | assumption | refine b_alloc ?_ _ | refine b_over ?_ _ | refine b_drew ?_ | refine b_call ?_ (by assumption)))⟩
        · have q1 : (j : Int) < Fx[i].length := by omega
          have qc : (j : Int) < s.c := by omega
          obtain ⟨b4, o4, v4, ea4, hb4, t0, t1, t2⟩ := facL_at hl1 q
          have e : B = (Fx[i])[j].1 := by rw [HBB.out, metB_at hi hx (by rw [hgP]; exact hj) (by rw [hgF]; exact q)]; unfold factM; rw [hgF, getD_at q]
          rw [← e] at t0
          rw [ea4] at hc1
          clear t1 t2 e
          generalize P.fs[i].code.length = N at *
          generalize Fx[i].length = M at *
          clear NO HBB hcc1 hcc2 ec ec3 ec4 ec5 sn sc1 hgP hgF
          go_enter Try.func54, Try.ntmps54
          go_wp2_with fail
          go_ret
          exact ⟨rfl, by (repeat' (first | exact Below.refl _ _ | assumption | refine b_alloc ?_ _ | refine b_over ?_ _ | refine b_drew ?_ | refine b_call ?_ (by assumption)))⟩
def RetFact (w : World) (P : PrM) (Fx : FxM) (f a : Int) (e : Ending) (w' : World) : Prop := ∃ t, ∃ s : Sl, e = .returned (.tuple #[.agg #[.bool t, .slice s.a s.n s.c], .bool (metB P Fx f a)]) ∧ (metB P Fx f a = true → ReadI w' s.v (factM Fx f.toNat a.toNat).2) ∧ Below w.heap.size w w'
set_option maxRecDepth 100000 in
set_option maxHeartbeats 2000000 in
theorem vfact_any (p : PrV) (P : PrM) (v : Value) (Fx : FxM) (f a : Int) (w : World) (h : ReadP w p P) (hf : FacR w v Fx) : Calls Try.prog 86 #[aggP p, v, .int .i64 f, .int .i64 a] w (RetFact w P Fx f a) := by
  obtain ⟨n1, n2, n3⟩ := fn_len h
  obtain ⟨va, vc, rfl, m2, m3⟩ := facR_form hf
  obtain ⟨B, hB⟩ : ∃ B, B = metB P Fx f a := ⟨_, rfl⟩
  have HBB := Lib.hid hB
  have HR := Lib.hid h; have HF := Lib.hid hf
  obtain ⟨u, ⟨ga, gn, gc⟩, m0, ⟨fa, fn, fc⟩⟩ := p
  simp only at n1 n2 n3
  subst n1
  have n4 : (P.fs.length : Int) ≤ fc := by omega
  have m4 : (Fx.length : Int) ≤ vc := by omega
  have FIN0 : Hid (B = false → ∀ w', Below w.heap.size w w' → RetFact w P Fx f a (.returned (.tuple #[.agg #[.bool false, .slice none 0 0], .bool false])) w') := Lib.hid (fun e w' hb => ⟨false, ⟨none, 0, 0⟩, by rw [← hB, e], fun z => by (rw [← hB, e] at z; cases z), hb⟩)
  clear h hf hB n2 m2
  unfold aggP Sl.v
  simp only
  have NO : Hid (¬ (0 ≤ f ∧ f < P.fs.length ∧ f < Fx.length ∧ 0 ≤ a ∧ a < (P.fs.getD f.toNat fzM).code.length ∧ a < (Fx.getD f.toNat []).length) → B = false) := Lib.hid (fun z => by rw [HBB.out]; exact metB_no z)
  have HST : Hid (∀ W, W = (w.alloc (.cells #[.bool u, .slice ga gn gc, .int .i64 m0, .slice fa P.fs.length fc] 31)).alloc (.cells #[.bool false, .slice none 0 0] 92) → (Blk W w.heap.size [.bool u, .slice ga gn gc, .int .i64 m0, .slice fa P.fs.length fc] ∧ Blk W (w.heap.size + 1) [.bool false, .slice none 0 0] ∧ Below w.heap.size w W)) := Lib.hid (fun W e => by subst e; exact boxes2 w #[.bool u, .slice ga gn gc, .int .i64 m0, .slice fa P.fs.length fc] #[.bool false, .slice none 0 0] 31 92)
  rcases at_cases P Fx f a with q | ⟨i, rfl, q | ⟨hi, q⟩⟩
  · have e : B = false := NO.out (by omega)
    subst e
    clear NO HBB
    go_enter Try.func86, Try.ntmps86
    go_upto_region 1 with fail
    refine wp_named ?_
    intro W hW
    obtain ⟨q1', q2', q3'⟩ := HST.out W hW
    obtain ⟨y0, y1, y2, y3, _⟩ := blk4 q1'
    obtain ⟨z0, z1, zf⟩ := blk2 q2'
    have sz0 := q1'.1
    have sz1 := q2'.1
    have HB := Lib.hid q3'
    skip
    clear hW q1' q2' q3' HST
    go_big_quiet (fail)
    go_wp2_with fail
    all_goals exact bodyPost_ret (v := .tuple #[.agg #[.bool false, .slice none 0 0], .bool false]) (by simp [results, Try.results86, go_sem, z0, z1]) rfl (FIN0.out (by first | trivial | rfl) _ (b_grown (b_drewN HB.out _) (gb_set (gb_set (gb_refl _ (some (w.heap.size + 1))) _ _ _) _ _ _) (by omega)))
  · have e : B = false := NO.out (by omega)
    subst e
    have i0 : (0 : Int) ≤ i := by omega
    clear NO HBB
    have d1 : decide ((i : Int) < 0) = false := decide_eq_false (by omega)
    have d2 : decide ((if Fx.length < P.fs.length then (Fx.length : Int) else (P.fs.length : Int)) ≤ (i : Int)) = true := decide_eq_true (by split <;> omega)
    go_enter Try.func86, Try.ntmps86
    go_upto_region 1 with fail
    refine wp_named ?_
    intro W hW
    obtain ⟨q1', q2', q3'⟩ := HST.out W hW
    obtain ⟨y0, y1, y2, y3, _⟩ := blk4 q1'
    obtain ⟨z0, z1, zf⟩ := blk2 q2'
    have sz0 := q1'.1
    have sz1 := q2'.1
    have HB := Lib.hid q3'
    skip
    clear hW q1' q2' q3' HST
    go_big_quiet (fail)
    generalize (if Fx.length < P.fs.length then (Fx.length : Int) else (P.fs.length : Int)) = mn1 at *
    go_wp2_with fail
    all_goals exact bodyPost_ret (v := .tuple #[.agg #[.bool false, .slice none 0 0], .bool false]) (by simp [results, Try.results86, go_sem, z0, z1]) rfl (FIN0.out (by first | trivial | rfl) _ (b_grown (b_drewN HB.out _) (gb_set (gb_set (gb_refl _ (some (w.heap.size + 1))) _ _ _) _ _ _) (by omega)))
  · have i0 : (0 : Int) ≤ i := by omega
    have i1 : (i : Int) < P.fs.length := by omega
    have ic : (i : Int) < fc := by omega
    rcases q with q | ⟨hx, q⟩
    · have e : B = false := NO.out (by omega)
      subst e
      have q1 : ¬ ((i : Int) < Fx.length) := by omega
      clear NO HBB
      have d1 : decide ((i : Int) < 0) = false := decide_eq_false (by omega)
      have d2 : decide ((if Fx.length < P.fs.length then (Fx.length : Int) else (P.fs.length : Int)) ≤ (i : Int)) = true := decide_eq_true (by split <;> omega)
      go_enter Try.func86, Try.ntmps86
      go_upto_region 1 with fail
      refine wp_named ?_
      intro W hW
      obtain ⟨q1', q2', q3'⟩ := HST.out W hW
      obtain ⟨y0, y1, y2, y3, _⟩ := blk4 q1'
      obtain ⟨z0, z1, zf⟩ := blk2 q2'
      have sz0 := q1'.1
      have sz1 := q2'.1
      have HB := Lib.hid q3'
      skip
      clear hW q1' q2' q3' HST
      go_big_quiet (fail)
      generalize (if Fx.length < P.fs.length then (Fx.length : Int) else (P.fs.length : Int)) = mn1 at *
      go_wp2_with fail
      all_goals exact bodyPost_ret (v := .tuple #[.agg #[.bool false, .slice none 0 0], .bool false]) (by simp [results, Try.results86, go_sem, z0, z1]) rfl (FIN0.out (by first | trivial | rfl) _ (b_grown (b_drewN HB.out _) (gb_set (gb_set (gb_refl _ (some (w.heap.size + 1))) _ _ _) _ _ _) (by omega)))
    · have x1 : (i : Int) < Fx.length := by omega
      have xc : (i : Int) < vc := by omega
      obtain ⟨b2, o2, ea, hb2, v, hd, _, _, _, e3⟩ := fn_at HR.out hi
      simp only at ea
      subst ea
      obtain ⟨_, cap9, ec, hcc1, hcc2⟩ := readR_len hd.c
      have ec2 : Value.slice v.c.a v.c.n v.c.c = .slice _ P.fs[i].code.length cap9 := ec
      injection ec2 with ec3 ec4 ec5
      rw [ec4] at e3
      obtain ⟨b1, o1, s, rfl, hb1, hc1, hl1⟩ := facR_at HF.out hx
      obtain ⟨sn, sc1, sc2⟩ := facL_form hl1
      rw [sn] at hc1
      have hgP : P.fs.getD i fzM = P.fs[i] := getD_at hi _
      have hgF : Fx.getD i [] = Fx[i] := getD_at hx _
      rcases q with q | ⟨j, rfl, q | ⟨hj, q⟩⟩
      · have e : B = false := NO.out (by omega)
        subst e
        clear NO HBB hcc1 hcc2 ec ec3 ec4 ec5 sn sc1 sc2 hgP hgF
        have d1 : decide ((i : Int) < 0) = false := decide_eq_false (by omega)
        have d2 : decide ((if Fx.length < P.fs.length then (Fx.length : Int) else (P.fs.length : Int)) ≤ (i : Int)) = false := decide_eq_false (by split <;> omega)
        have d3 : decide (a < 0) = true := decide_eq_true (by omega)
        go_enter Try.func86, Try.ntmps86
        go_upto_region 1 with fail
        refine wp_named ?_
        intro W hW
        obtain ⟨q1', q2', q3'⟩ := HST.out W hW
        obtain ⟨y0, y1, y2, y3, _⟩ := blk4 q1'
        obtain ⟨z0, z1, zf⟩ := blk2 q2'
        have sz0 := q1'.1
        have sz1 := q2'.1
        have HB := Lib.hid q3'
        have e3' := ((bcell HB.out).1 _ _ hb2).trans e3
        have hb2' := Nat.lt_of_lt_of_le hb2 HB.out.size
        clear e3 hb2
        have hc1' := ((bcell HB.out).1 _ _ hb1).trans hc1
        have hb1' := Nat.lt_of_lt_of_le hb1 HB.out.size
        clear hc1 hb1
        clear hW q1' q2' q3' HST
        go_big_quiet (fail)
        generalize (if Fx.length < P.fs.length then (Fx.length : Int) else (P.fs.length : Int)) = mn1 at *
        go_wp2_with fail
        all_goals exact bodyPost_ret (v := .tuple #[.agg #[.bool false, .slice none 0 0], .bool false]) (by simp [results, Try.results86, go_sem, z0, z1]) rfl (FIN0.out (by first | trivial | rfl) _ (b_grown (b_drewN HB.out _) (gb_set (gb_set (gb_refl _ (some (w.heap.size + 1))) _ _ _) _ _ _) (by omega)))
      · have e : B = false := NO.out (by rw [show ((i : Int).toNat) = i from rfl, hgP]; omega)
        subst e
        have q1 : ¬ ((j : Int) < P.fs[i].code.length) := by omega
        have j0 : (0 : Int) ≤ j := by omega
        generalize P.fs[i].code.length = N at *
        clear NO HBB hcc1 hcc2 ec ec3 ec4 ec5 sn sc1 sc2 hgP hgF
        have d1 : decide ((i : Int) < 0) = false := decide_eq_false (by omega)
        have d2 : decide ((if Fx.length < P.fs.length then (Fx.length : Int) else (P.fs.length : Int)) ≤ (i : Int)) = false := decide_eq_false (by split <;> omega)
        have d3 : decide ((j : Int) < 0) = false := decide_eq_false (by omega)
        have d4 : decide ((if Fx[i].length < N then (Fx[i].length : Int) else (N : Int)) ≤ (j : Int)) = true := decide_eq_true (by split <;> omega)
        go_enter Try.func86, Try.ntmps86
        go_upto_region 1 with fail
        refine wp_named ?_
        intro W hW
        obtain ⟨q1', q2', q3'⟩ := HST.out W hW
        obtain ⟨y0, y1, y2, y3, _⟩ := blk4 q1'
        obtain ⟨z0, z1, zf⟩ := blk2 q2'
        have sz0 := q1'.1
        have sz1 := q2'.1
        have HB := Lib.hid q3'
        have e3' := ((bcell HB.out).1 _ _ hb2).trans e3
        have hb2' := Nat.lt_of_lt_of_le hb2 HB.out.size
        clear e3 hb2
        have hc1' := ((bcell HB.out).1 _ _ hb1).trans hc1
        have hb1' := Nat.lt_of_lt_of_le hb1 HB.out.size
        clear hc1 hb1
        clear hW q1' q2' q3' HST
        go_big_quiet (fail)
        generalize (if Fx.length < P.fs.length then (Fx.length : Int) else (P.fs.length : Int)) = mn1 at *
        generalize (if Fx[i].length < N then (Fx[i].length : Int) else (N : Int)) = mn2 at *
        go_wp2_with fail
        all_goals exact bodyPost_ret (v := .tuple #[.agg #[.bool false, .slice none 0 0], .bool false]) (by simp [results, Try.results86, go_sem, z0, z1]) rfl (FIN0.out (by first | trivial | rfl) _ (b_grown (b_drewN HB.out _) (gb_set (gb_set (gb_refl _ (some (w.heap.size + 1))) _ _ _) _ _ _) (by omega)))
      · have j0 : (0 : Int) ≤ j := by omega
        have j1 : (j : Int) < P.fs[i].code.length := by omega
        rcases q with q | q
        · have e : B = false := NO.out (by rw [show ((i : Int).toNat) = i from rfl, hgF]; omega)
          subst e
          have q1 : ¬ ((j : Int) < Fx[i].length) := by omega
          generalize P.fs[i].code.length = N at *
          generalize Fx[i].length = M at *
          clear NO HBB hcc1 hcc2 ec ec3 ec4 ec5 sn sc1 sc2 hgP hgF
          have d1 : decide ((i : Int) < 0) = false := decide_eq_false (by omega)
          have d2 : decide ((if Fx.length < P.fs.length then (Fx.length : Int) else (P.fs.length : Int)) ≤ (i : Int)) = false := decide_eq_false (by split <;> omega)
          have d3 : decide ((j : Int) < 0) = false := decide_eq_false (by omega)
          have d4 : decide ((if M < N then (M : Int) else (N : Int)) ≤ (j : Int)) = true := decide_eq_true (by split <;> omega)
          go_enter Try.func86, Try.ntmps86
          go_upto_region 1 with fail
          refine wp_named ?_
          intro W hW
          obtain ⟨q1', q2', q3'⟩ := HST.out W hW
          obtain ⟨y0, y1, y2, y3, _⟩ := blk4 q1'
          obtain ⟨z0, z1, zf⟩ := blk2 q2'
          have sz0 := q1'.1
          have sz1 := q2'.1
          have HB := Lib.hid q3'
          have e3' := ((bcell HB.out).1 _ _ hb2).trans e3
          have hb2' := Nat.lt_of_lt_of_le hb2 HB.out.size
          clear e3 hb2
          have hc1' := ((bcell HB.out).1 _ _ hb1).trans hc1
          have hb1' := Nat.lt_of_lt_of_le hb1 HB.out.size
          clear hc1 hb1
          clear hW q1' q2' q3' HST
          go_big_quiet (fail)
          generalize (if Fx.length < P.fs.length then (Fx.length : Int) else (P.fs.length : Int)) = mn1 at *
          generalize (if M < N then (M : Int) else (N : Int)) = mn2 at *
          go_wp2_with fail
          all_goals exact bodyPost_ret (v := .tuple #[.agg #[.bool false, .slice none 0 0], .bool false]) (by simp [results, Try.results86, go_sem, z0, z1]) rfl (FIN0.out (by first | trivial | rfl) _ (b_grown (b_drewN HB.out _) (gb_set (gb_set (gb_refl _ (some (w.heap.size + 1))) _ _ _) _ _ _) (by omega)))
        · have q1 : (j : Int) < Fx[i].length := by omega
          have qc : (j : Int) < s.c := by omega
          obtain ⟨b4, o4, v4, ea4, hb4, t0, t1, t2⟩ := facL_at hl1 q
          have e : B = (Fx[i])[j].1 := by rw [HBB.out, metB_at hi hx (by rw [hgP]; exact hj) (by rw [hgF]; exact q)]; unfold factM; rw [hgF, getD_at q]
          rw [← e] at t0
          rw [ea4] at hc1
          have EK := Lib.hid (show (factM Fx i j).2 = Fx[i][j].2 from by unfold factM; rw [hgF, getD_at q])
          clear e
          generalize Fx[i][j].2 = KD at *
          generalize P.fs[i].code.length = N at *
          generalize Fx[i].length = M at *
          clear NO hcc1 hcc2 ec ec3 ec4 ec5 sn sc1 hgP hgF
          have d1 : decide ((i : Int) < 0) = false := decide_eq_false (by omega)
          have d2 : decide ((if Fx.length < P.fs.length then (Fx.length : Int) else (P.fs.length : Int)) ≤ (i : Int)) = false := decide_eq_false (by split <;> omega)
          have d3 : decide ((j : Int) < 0) = false := decide_eq_false (by omega)
          have d4 : decide ((if M < N then (M : Int) else (N : Int)) ≤ (j : Int)) = false := decide_eq_false (by split <;> omega)
          go_enter Try.func86, Try.ntmps86
          go_upto_region 1 with fail
          refine wp_named ?_
          intro W hW
          obtain ⟨q1', q2', q3'⟩ := HST.out W hW
          obtain ⟨y0, y1, y2, y3, _⟩ := blk4 q1'
          obtain ⟨z0, z1, zf⟩ := blk2 q2'
          have sz0 := q1'.1
          have sz1 := q2'.1
          have HB := Lib.hid q3'
          have e3' := ((bcell HB.out).1 _ _ hb2).trans e3
          have hb2' := Nat.lt_of_lt_of_le hb2 HB.out.size
          clear e3 hb2
          have hc1' := ((bcell HB.out).1 _ _ hb1).trans hc1
          have hb1' := Nat.lt_of_lt_of_le hb1 HB.out.size
          have HORG := Lib.hid (And.intro (And.intro hb1 hb4) (And.intro hc1 (And.intro t0 t1)))
          have t0' := ((bcell HB.out).1 _ _ hb4).trans t0
          have t1' := ((bcell HB.out).1 _ _ hb4).trans t1
          have hb4' := Nat.lt_of_lt_of_le hb4 HB.out.size
          have HT2 := Lib.hid t2
          clear t0 t1 t2 hb4 hc1 hb1
          have HQ2 := Lib.hid q2'
          clear hW q1' q2' q3' HST
          go_big_quiet (fail)
          generalize (if Fx.length < P.fs.length then (Fx.length : Int) else (P.fs.length : Int)) = mn1 at *
          generalize (if M < N then (M : Int) else (N : Int)) = mn2 at *
          obtain ⟨W2, hW2⟩ : ∃ x, x = W.drewN nq := ⟨_, rfl⟩
          rw [← hW2]
          have HBd : Hid (Below W.heap.size W W2) := Lib.hid (by rw [hW2]; exact b_drewN (Below.refl _ _) _)
          have HB2 := Lib.hid (b_call HB.out HBd.out)
          have HQ3 := Lib.hid (blk_below HQ2.out HBd.out)
          clear hW2 z0 z1 zf sz0 sz1 y0 y1 y2 y3 hb1' hb2' hb4' hc1' e3' t0' t1' HQ2
          obtain ⟨⟨hb1, hb4⟩, hc1, t0, t1⟩ := HORG.out
          have hc1' := ((bcell HB2.out).1 _ _ hb1).trans hc1
          have hb1' := Nat.lt_of_lt_of_le hb1 HB2.out.size
          have t0' := ((bcell HB2.out).1 _ _ hb4).trans t0
          have t1' := ((bcell HB2.out).1 _ _ hb4).trans t1
          have hb4' := Nat.lt_of_lt_of_le hb4 HB2.out.size
          clear hb1 hb4 hc1 t0 t1
          go_upto_region 4 with fail
          refine wp_named ?_
          intro W5 hW5
          have S5 : Blk W5 W2.heap.size [.bool B, .slice v4.a v4.n v4.c] ∧ Below W2.heap.size W2 W5 := by
            first
            | (rw [hW5]; exact ⟨blk_new _ _ _, b_alloc (Below.refl _ _) _⟩)
            | exact store2 rfl hW5
          have HB5 := Lib.hid (b_call HB2.out S5.2)
          have HQ5 := Lib.hid (blk_below HQ3.out S5.2)
          obtain ⟨x0, x1', _⟩ := blk2 S5.1
          obtain ⟨r0, r1, rf⟩ := blk2 HQ5.out
          have sx := S5.1.1
          have sr := HQ5.out.1
          clear hW5 S5 hb1' hb4' hc1' t0' t1'
          have hne1 : ¬ (w.heap.size + 1 = W2.heap.size) := by have := HQ3.out.1; omega
          have hne2 : ¬ (W2.heap.size = w.heap.size + 1) := by have := HQ3.out.1; omega
          go_region
          go_wp2_with fail
          refine post_named ?_
          intro w9 hw9
          have g9 : W5.grownBy w9 (some (w.heap.size + 1)) ∧ w9.cell? ⟨w.heap.size + 1, 0, none⟩ = some (.bool B) ∧ w9.cell? ⟨w.heap.size + 1, 1, none⟩ = some (.slice v4.a v4.n v4.c) := by
            subst hw9
            refine ⟨?_, by simp [go_sem, r0, r1], by simp [go_sem, r0, r1]⟩
            exact gb_drew (gb_set (gb_set (gb_refl _ (some (w.heap.size + 1))) _ _ _) _ _ _)
          obtain ⟨g9, u0, u1⟩ := g9
          exact bodyPost_ret (v := .tuple #[.agg #[.bool B, .slice v4.a v4.n v4.c], .bool B]) (by simp [results, Try.results86, go_sem, u0, u1]) rfl (by
            have hb9 : Below w.heap.size w w9 := b_grown HB5.out g9 (by omega)
            refine ⟨B, v4, by rw [← HBB.out], fun _ => ?_, hb9⟩
            show ReadI w9 v4.v (factM Fx i j).2
            rw [EK.out]
            exact readI_below HT2.out hb9)
end
section
open Go.RowKit
set_option linter.unusedVariables false
set_option linter.unusedSimpArgs false
attribute [local go_sem] over_cell over_frozen
def refsF : List Int → Nat → List Int
  | [], _ => []
  | k :: l, i => if k = 2 then (i : Int) :: refsF l (i + 1) else refsF l (i + 1)
def refsL (l : List Int) : List Int := refsF l 0
theorem refsF_app : ∀ (a b : List Int) (i : Nat), refsF (a ++ b) i = refsF a i ++ refsF b (i + a.length)
  | [], b, i => by simp [refsF]
  | k :: a, b, i => by
    have e := refsF_app a b (i + 1)
    have e2 : i + 1 + a.length = i + (a.length + 1) := by omega
    simp only [List.cons_append, refsF, List.length_cons]
    split <;> simp [e, e2]
theorem refsF_len : ∀ (l : List Int) (i : Nat), (refsF l i).length ≤ l.length
  | [], _ => Nat.le_refl _
  | k :: l, i => by
    have := refsF_len l (i + 1)
    simp only [refsF, List.length_cons]
    split <;> simp <;> omega
theorem refs_take {l : List Int} {k : Nat} (hk : k < l.length) : refsL (l.take (k + 1)) = refsL (l.take k) ++ (if l[k] = 2 then [(k : Int)] else []) := by
  unfold refsL
  rw [List.take_succ_eq_append_getElem hk, refsF_app]
  congr 1
  rw [List.length_take, Nat.min_eq_left (by omega), Nat.zero_add]
  simp only [refsF]
/-- A row that the call itself laid. -/
def RetJ (w : World) (xs : List Int) (e : Ending) (w' : World) : Prop := ∃ a c, e = .returned (.slice a xs.length c) ∧ ReadI w' (.slice a xs.length c) xs ∧ (∀ k, (Value.slice a xs.length c).ownBlock = some k → w.heap.size ≤ k ∧ k < w'.heap.size) ∧ Below w.heap.size w w'
set_option maxHeartbeats 1000000 in
theorem mrefs_own (u : Value) (xs : List Int) (w : World) (h : ReadI w u xs) (hl : xs.length ≤ 17592186044415) : Calls Try.prog 88 #[u] w (RetJ w (refsL xs)) := by
  obtain ⟨a, cap, rfl⟩ := readI_len h
  have H := Lib.hid h
  have hl1 : (xs.length : Int) ≤ 17592186044415 := by omega
  have HLL := Lib.hid hl
  clear h hl
  go_enter Try.func88, Try.ntmps88
  go_wp2_with fail
  go_loopw [3, 8] (fun v i wr => ∃ k : Nat, k ≤ xs.length ∧ i = .int .i64 k ∧ (∃ (a : Option Addr) (n c : Nat) (LL : List Int), v = .slice a n c ∧ n = LL.length ∧ Hid (LL = refsL (xs.take k)) ∧ Hid (OwnR intE 3 wr w.heap.size (.slice a LL.length c) LL)) ∧ Hid (Below w.heap.size w wr)) (fun _ i _ => xs.length - (intOf i).toNat)
  case atStart => exact ⟨0, Nat.zero_le _, rfl, ⟨none, 0, 0, [], rfl, rfl, Lib.hid rfl, Lib.hid (ownR_nil _ _)⟩, Lib.hid (Below.refl _ _)⟩
  case round =>
    obtain ⟨k, hk, rfl, ⟨a', n', c', LL, rfl, rfl, HEQ, HOW⟩, HB⟩ := hrel
    have k0 : (0 : Int) ≤ k := by omega
    by_cases hlt : k < xs.length
    · have k1 : (k : Int) < xs.length := by omega
      obtain ⟨bl, off, cp, e1, r1, r2, hbl, r4⟩ := readI_pos (readI_below H.out HB.out) (by omega)
      injection e1 with e1 _ e3
      subst e1
      have hcx := r4 k hlt
      rw [List.getD_eq_getElem?_getD, List.getElem?_eq_getElem hlt, Option.getD_some] at hcx
      have HT := Lib.hid (refs_take hlt)
      have hLL : LL.length ≤ 17592186044414 := by
        rw [HEQ.out]
        have q := refsF_len (xs.take k) 0
        rw [List.length_take] at q
        have := HLL.out
        show (refsF (xs.take k) 0).length ≤ _
        omega
      generalize xs[k] = x at *
      have hbs := HB.out.size
      clear r4 r1 r2 e3
      by_cases hx : x = 2
      · rw [if_pos hx] at HT
        subst hx
        go_wp2_with (at_builtin; refine append1 (c := intE) rowInt (by rfl) _ _ (by rfl) (by rfl) (v := .slice a' LL.length c') (L := LL) (B := w.heap.size) (ownR_alloc HOW.out _) (k : Int) _ 1 (by rfl) (blk_new9 rfl) ?c1 ?c2 ?c3 ?_; (case c1 => (omega)); (case c2 => (unfold maxLen; omega)); (case c3 => (simp; omega)); intro g9 cap9 w9 ho9 hg9 hor9 hl9; have HO9 := Lib.hid ho9; have HG9 := Lib.hid hg9; clear ho9 hg9 hor9 hl9)
        go_roundw
        case rel =>
          refine ⟨k + 1, by omega, by first | rfl | go_num, ⟨some ⟨g9, 0, none⟩, LL.length + 1, cap9, LL ++ [(k : Int)], rfl, by simp, Lib.hid (by rw [HT.out, HEQ.out]), Lib.hid (by rw [List.length_append]; exact HO9.out)⟩, Lib.hid (b_ownR (b_alloc HB.out _) (ownR_alloc HOW.out _) HG9.out)⟩
        case measure => simp [intOf]; omega
      · rw [if_neg hx, List.append_nil] at HT
        have hxb : (x == 2) = false := beq_false_of_ne hx
        clear hx
        go_wp2_with fail
        go_roundw
        case rel => exact ⟨k + 1, by omega, by first | rfl | go_num, ⟨a', LL.length, c', LL, rfl, rfl, Lib.hid (by rw [HT.out, HEQ.out]), HOW⟩, HB⟩
        case measure => simp [intOf]; omega
    · have k1 : ¬ ((k : Int) < xs.length) := by omega
      have HF : Hid (LL = refsL xs) := Lib.hid (by rw [HEQ.out, List.take_of_length_le (by omega)])
      go_wp2_with fail
      go_ret
      rw [← HF.out]
      exact ⟨a', c', rfl, readR_I (ownR_read HOW.out), ownR_lt HOW.out, HB.out⟩
end
end Go.Proofs.Ytdmidnmciaediaa
