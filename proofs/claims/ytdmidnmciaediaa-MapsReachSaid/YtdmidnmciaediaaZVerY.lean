/- Layer 26: the contract of the program's function: going through one. Conditions: those stated. Layer 26: the contracts of slices.Clone of ints and of the program's Check. Conditions: those stated. Layer 26: the contracts of the program's Effect, of the law's one; chapter 26's examples. Conditions: those stated. -/
import Derived.Test.YtdmidnmciaediaaZVerH
import Derived.Test.YtdmidnmciaediaaZVerG
import Derived.Test.YtdmidnmciaediaaZVerX
import Derived.Test.YtdmidnmciaediaaZTypP
import Derived.Laws.StructEq
namespace Go.Proofs.Ytdmidnmciaediaa
open Go.RowKit
set_option linter.unusedVariables false
set_option linter.unusedSimpArgs false
attribute [local go_sem] over_cell over_frozen
theorem eff_on {P : PrM} {f : FnM} {k : Nat} {st : List Int} (hG : GoodE P f) (hk : k < f.code.length) (h : (effect P f k st).c = 0) : (∀ j ∈ (effect P f k st).p, 0 ≤ j ∧ j < f.code.length) ∧ (effect P f k st).t.length ≤ 16 ∧ (effect P f k st).p.length ≤ 2 := by
  have hi : 0 ≤ (codeAt f k).a := by
    unfold codeAt
    rw [show ((k : Int).toNat) = k from rfl, List.getD_eq_getElem?_getD, List.getElem?_eq_getElem hk]
    exact (hG.i _ (List.getElem_mem hk)).2.2
  have hw := ways_in (k := k) hi
  unfold effect effD at *
  split at h
  · rename_i q; exact absurd h q
  · rename_i q0
    split at h
    · exact absurd h (by decide)
    · rename_i q1
      split at h
      · exact absurd h (by decide)
      · rename_i q2
        split at h
        · exact absurd h (by decide)
        · rename_i q3
          split at h
          · exact absurd h (by decide)
          · rename_i q4
            rw [if_neg q0, if_neg q1, if_neg q2, if_neg q3, if_neg q4]
            refine ⟨fun j hj => ⟨hw.2 j hj, ?_⟩, ?_, hw.1⟩
            · have := q3
              simp only [List.any_eq_true, decide_eq_true_iff, not_exists, not_and] at this
              have := this j hj
              omega
            · show (st.take _ ++ _).length ≤ 16
              rw [List.length_append, List.length_take]
              omega
theorem noInt_new (w : World) (arr : Array Value) (T : TypeId) (h : ∀ x ∈ arr.toList, ∀ i, x ≠ .int .i64 i) : NoInt (w.alloc (.cells arr T)) w.heap.size := fun o i e => by
  rw [World.cell?_alloc_new] at e
  obtain ⟨ho, he⟩ := Array.getElem?_eq_some_iff.1 e
  exact h _ (by rw [← he]; exact Array.getElem_mem_toList ho) i rfl
theorem muF_append : ∀ (A B : List (Option (List Int))), muF (A ++ B) = muF A + muF B
  | [], B => by simp [muF]
  | none :: A, B => by simp only [List.cons_append, muF, muF_append A B]; omega
  | some _ :: A, B => by simp only [List.cons_append, muF, muF_append A B]
theorem muO_append : ∀ (A B : List Bool), muO (A ++ B) = muO A + muO B
  | [], B => by simp [muO]
  | true :: A, B => by simp only [List.cons_append, muO, muO_append A B]; omega
  | false :: A, B => by simp only [List.cons_append, muO, muO_append A B]
def cntF (w : World) (g : Nat) : Nat → Nat
  | 0 => 0
  | n + 1 => cntF w g n + (match w.cell? ⟨g, n * 2, none⟩ with | some (.bool true) => 0 | _ => 2)
def cntO (w : World) (o : Nat) : Nat → Nat
  | 0 => 0
  | n + 1 => cntO w o n + (match w.cell? ⟨o, n, none⟩ with | some (.bool true) => 1 | _ => 0)
theorem cntF_of {w : World} {c g o n : Nat} {F : List (Bool × Sl)} {O : List Bool} {M : List (Option (List Int))} (h : ChkAt w c g o n F O M) : ∀ k, k ≤ n → cntF w g k = muF (M.take k)
  | 0, _ => rfl
  | k + 1, hk => by
    have hF : k < F.length := by rw [h.lf]; omega
    have hM : k < M.length := by rw [← h.ok.1]; exact hF
    have q := (h.ok.2 k hF).1
    rw [List.getD_eq_getElem?_getD, List.getElem?_eq_getElem hM, Option.getD_some] at q
    have f0 := (fact_at h.fr hF).1
    unfold cntF
    rw [cntF_of h k (by omega), f0, q, List.take_succ_eq_append_getElem hM, muF_append]
    cases M[k] <;> rfl
theorem cntO_of {w : World} {c g o n : Nat} {F : List (Bool × Sl)} {O : List Bool} {M : List (Option (List Int))} (h : ChkAt w c g o n F O M) : ∀ k, k ≤ n → cntO w o k = muO (O.take k)
  | 0, _ => rfl
  | k + 1, hk => by
    have hO : k < O.length := by rw [h.lo]; omega
    unfold cntO
    rw [cntO_of h k (by omega), bol_at h.ob hO, List.take_succ_eq_append_getElem hO, muO_append]
    cases O[k] <;> rfl
def muW (w : World) (g o n : Nat) : Nat := cntF w g n + cntO w o n
theorem muW_of {w : World} {c g o n : Nat} {F : List (Bool × Sl)} {O : List Bool} {M : List (Option (List Int))} (h : ChkAt w c g o n F O M) : muW w g o n = muF M + muO O := by
  unfold muW
  rw [cntF_of h n (Nat.le_refl _), cntO_of h n (Nat.le_refl _), List.take_of_length_le (by rw [← h.ok.1, h.lf]; exact Nat.le_refl _), List.take_of_length_le (by rw [h.lo]; exact Nat.le_refl _)]
/-- One is closed. -/
theorem chk_close {w : World} {c g o n k : Nat} {F : List (Bool × Sl)} {O : List Bool} {M : List (Option (List Int))} (h : ChkAt w c g o n F O M) (hk : k < n) : ChkAt (w.setCell ⟨o, k, none⟩ (.bool false)) c g o n F (O.set k false) M := by
  have hO : k < O.length := by rw [h.lo]; exact hk
  have g2 : w.grownBy (w.setCell ⟨o, k, none⟩ (.bool false)) (some o) := gb_set (gb_refl _ _) _ _ _
  have lo1 : k < (bolE.row O).length := by rw [row_length]; show _ < O.length * 1; omega
  have e := blk_elt (c := bolE) h.ob hO false
  have e2 : Blk (w.setCell ⟨o, k * 1, none⟩ (.bool false)) o (bolE.row (O.set k false)) := e
  rw [Nat.mul_one] at e2
  refine ⟨blk_grown h.hd g2 (fun e => h.e2 (by injection e)), blk_grown h.fr g2 (fun e => h.e3 (by injection e)), e2, noInt_grown h.ng h.fr.1 h.e3 g2, noInt_set h.no h.ob lo1 (fun i e => by cases e), h.e1, h.e2, h.e3, h.lf, by rw [List.length_set]; exact h.lo, ⟨h.ok.1, fun j hj => ?_⟩, by rw [tyB_set]; exact h.ty⟩
  exact ⟨(h.ok.2 j hj).1, readI_no (h.ok.2 j hj).2 h.no g2⟩
/-- Facts in a row of the call's own. -/
structure RowAt (w : World) (B g n : Nat) (F : List (Bool × Sl)) (M : List (Option (List Int))) : Prop where
  fr : Blk w g (factE.row F)
  ng : NoInt w g
  lf : F.length = n
  ok : FactsOk w F M
  lo : B ≤ g
  ty : tyB w g = some FCT
  sm : ∀ k x, M.getD k none = some x → x.length ≤ 16
def RetFun (w : World) (n : Nat) (R : Sum (List (Option (List Int))) (Int × Int)) (e : Ending) (w' : World) : Prop :=
  (match R with
    | .inl M => ∃ g F, e = .returned (.tuple #[.slice (some ⟨g, 0, none⟩) n n, .int .i64 0, .int .i64 0]) ∧ RowAt w' w.heap.size g n F M
    | .inr x => e = .returned (.tuple #[.slice none 0 0, .int .i64 x.1, .int .i64 x.2])) ∧ Below w.heap.size w w'
/-- What stands at a round's beginning. -/
structure Rnd (w0 w : World) (c g o n : Nat) (P : PrM) (f : FnM) (s : StM) (R : Sum (List (Option (List Int))) (Int × Int)) : Prop where
  be : Below w0.heap.size w0 w
  ck : ∃ F, ChkAt w c g o n F s.O s.F
  sm : ∀ k x, s.F.getD k none = some x → x.length ≤ 16
  r : ∃ fuel, R = runV P f fuel s ∧ mu s ≤ fuel
/-- What stands between the ways on. -/
structure LP (w0 w : World) (c g o n : Nat) (s1 : StM) (E : Deal) (ba : Option Addr) (bc : Nat) (oa : Option Addr) (oc : Nat) (j : Nat) (s : StM) : Prop where
  be : Below w0.heap.size w0 w
  ck : ∃ F, ChkAt w c g o n F s.O s.F
  sm : ∀ k x, s.F.getD k none = some x → x.length ≤ 16
  me : meets s1 E.t E.p = meets s E.t (E.p.drop j)
  mu : mu s ≤ mu s1
  rt : ReadI w (.slice ba E.t.length bc) E.t
  rp : ReadI w (.slice oa E.p.length oc) E.p
def mkF (m : Nat) : Array Value := madeCells (Value.agg #[.bool false, .slice none 0 0]).cells (m * factE.size)
def mkO (m : Nat) : Array Value := madeCells (Value.bool false).cells (m * bolE.size)
theorem rowFct : IsRow Try.prog 88 92 2 32 (.agg #[.bool false, .slice none 0 0]) := ⟨Try.underlying88, by kernel_rfl, by rfl⟩
theorem rowBol : IsRow Try.prog 96 4 1 1 (.bool false) := ⟨Try.underlying96, by kernel_rfl, by rfl⟩
theorem mkF_row (m : Nat) : (mkF m).toList = factE.row (List.replicate m (false, ⟨none, 0, 0⟩)) := made_row (c := factE) _ _ rfl m
theorem mkO_row (m : Nat) : (mkO m).toList = bolE.row (List.replicate m false) := made_row (c := bolE) _ _ rfl m
theorem mkF_no (m : Nat) : ∀ x ∈ (mkF m).toList, ∀ i, x ≠ .int .i64 i := by
  rw [mkF_row]
  intro x hx i e
  unfold Elt.row at hx
  obtain ⟨y, _, hy⟩ := List.mem_flatMap.1 hx
  subst e
  simp [factE] at hy
theorem mkO_no (m : Nat) : ∀ x ∈ (mkO m).toList, ∀ i, x ≠ .int .i64 i := by
  rw [mkO_row]
  intro x hx i e
  unfold Elt.row at hx
  obtain ⟨y, _, hy⟩ := List.mem_flatMap.1 hx
  subst e
  simp [bolE] at hy
theorem chk_start {w : World} {c g o n : Nat} (hd : Blk w c [.slice (some ⟨g, 0, none⟩) n n, .slice (some ⟨o, 0, none⟩) n n]) (fr : Blk w g (mkF n).toList) (ob : Blk w o (mkO n).toList) (ng : NoInt w g) (no : NoInt w o) (e1 : c ≠ g) (e2 : c ≠ o) (e3 : g ≠ o) (ty : tyB w g = some FCT) : ChkAt w c g o n (List.replicate n (false, ⟨none, 0, 0⟩)) (List.replicate n false) (List.replicate n none) := by
  rw [mkF_row] at fr
  rw [mkO_row] at ob
  refine ⟨hd, fr, ob, ng, no, e1, e2, e3, by simp, by simp, ⟨by simp, fun k hk => ?_⟩, ty⟩
  have hk' : k < n := by simpa using hk
  simp only [List.getElem_replicate]
  rw [List.getD_eq_getElem?_getD, List.getElem?_replicate, if_pos hk']
  exact ⟨rfl, readI_nil _⟩
theorem chk_startA (W : World) (n : Nat) (T : TypeId) : ChkAt (((W.alloc (.cells (mkF n) 92)).alloc (.cells (mkO n) 4)).alloc (.cells #[.slice (some ⟨W.heap.size, 0, none⟩) n n, .slice (some ⟨W.heap.size + 1, 0, none⟩) n n] T)) (W.heap.size + 2) W.heap.size (W.heap.size + 1) n (List.replicate n (false, ⟨none, 0, 0⟩)) (List.replicate n false) (List.replicate n none) := by
  obtain ⟨q1, q2, q3, q4⟩ := boxes3 W (mkF n) (mkO n) #[.slice (some ⟨W.heap.size, 0, none⟩) n n, .slice (some ⟨W.heap.size + 1, 0, none⟩) n n] 92 4 T
  have n2 := noInt_new (W.alloc (.cells (mkF n) 92)) (mkO n) 4 (mkO_no n)
  rw [World.size_alloc] at n2
  exact chk_start q3 q1 q2 (noInt_below (noInt_new W (mkF n) 92 (mkF_no n)) (by simp) (b_alloc (b_alloc (Below.refl _ _) _) _)) (noInt_below n2 (by simp) (b_alloc (Below.refl _ _) _)) (by omega) (by omega) (by omega) (tyB_alloc (tyB_alloc (tyB_new W (mkF n) 92) _) _)
theorem chk_startB (W : World) (n : Nat) (T : TypeId) : ChkAt (((W.alloc (.cells (mkO n) 4)).alloc (.cells (mkF n) 92)).alloc (.cells #[.slice (some ⟨W.heap.size + 1, 0, none⟩) n n, .slice (some ⟨W.heap.size, 0, none⟩) n n] T)) (W.heap.size + 2) (W.heap.size + 1) W.heap.size n (List.replicate n (false, ⟨none, 0, 0⟩)) (List.replicate n false) (List.replicate n none) := by
  obtain ⟨q1, q2, q3, q4⟩ := boxes3 W (mkO n) (mkF n) #[.slice (some ⟨W.heap.size + 1, 0, none⟩) n n, .slice (some ⟨W.heap.size, 0, none⟩) n n] 4 92 T
  have n2 := noInt_new (W.alloc (.cells (mkO n) 4)) (mkF n) 92 (mkF_no n)
  rw [World.size_alloc] at n2
  exact chk_start q3 q2 q1 (noInt_below n2 (by simp) (b_alloc (Below.refl _ _) _)) (noInt_below (noInt_new W (mkO n) 4 (mkO_no n)) (by simp) (b_alloc (b_alloc (Below.refl _ _) _) _)) (by omega) (by omega) (by omega) (tyB_alloc (tyB_new2 (by simp)) _)
theorem meet_sm {s : StM} {k : Nat} {st : List Int} (h : ∀ k x, s.F.getD k none = some x → x.length ≤ 16) (hst : st.length ≤ 16) : ∀ j x, (meetM s k st).2.F.getD j none = some x → x.length ≤ 16 := by
  intro j x
  unfold meetM
  cases hm : s.F.getD k none with
  | some y => exact h j x
  | none =>
    show (s.F.set k (some st)).getD j none = some x → _
    intro hx
    rw [List.getD_eq_getElem?_getD, List.getElem?_set] at hx
    split at hx
    · split at hx
      · simp at hx; subst hx; exact hst
      · simp at hx
    · rw [← List.getD_eq_getElem?_getD] at hx
      exact h j x hx
theorem run_step {P : PrM} {f : FnM} {fuel k : Nat} {s : StM} (h : firstT s.O = some k) (hf : mu s ≤ fuel) : ∃ n, fuel = n + 1 ∧ mu ⟨s.F, s.O.set k false⟩ ≤ n ∧ runV P f fuel s = if (effect P f k ((s.F.getD k none).getD [])).c ≠ 0 then .inr ((k : Int), (effect P f k ((s.F.getD k none).getD [])).c)
      else match meets ⟨s.F, s.O.set k false⟩ (effect P f k ((s.F.getD k none).getD [])).t (effect P f k ((s.F.getD k none).getD [])).p with
        | .inr j => .inr (j, 4)
        | .inl s' => runV P f n s' := by
  obtain ⟨h1, h2, h3⟩ := muO_first _ _ h
  have hm : mu s = muF s.F + muO s.O := rfl
  have hm2 : mu ⟨s.F, s.O.set k false⟩ = muF s.F + muO (s.O.set k false) := rfl
  obtain ⟨n, rfl⟩ : ∃ n, fuel = n + 1 := ⟨fuel - 1, by omega⟩
  refine ⟨n, rfl, by omega, ?_⟩
  rw [runV, h]
  rfl
theorem runV_code {P : PrM} {f : FnM} : ∀ (n : Nat) (s : StM) {x : Int × Int}, runV P f n s = .inr x → x.2 ≠ 0
  | 0, s, x, h => by cases h
  | n + 1, s, x, h => by
    rw [runV] at h
    split at h
    · cases h
    · split at h
      · rename_i q
        injection h with h
        rw [← h]; exact q
      · split at h
        · injection h with h
          rw [← h]; show (4 : Int) ≠ 0; decide
        · exact runV_code n _ h
set_option maxRecDepth 100000 in
set_option maxHeartbeats 8000000 in
theorem vfun_any (p : PrV) (P : PrM) (v : FnV) (f : FnM) (w : World) (h : ReadP w p P) (hs : SmallP P) (hf : DeepF w v f) (hsf : SmallF f) (hk0 : 0 < f.code.length) (hk2 : f.code.length ≤ 200) (hG : GoodE P f) : Calls Try.prog 78 #[aggP p, aggF v] w (RetFun w f.code.length (funM P f)) := by
  obtain ⟨u, ⟨ga, gn, gc⟩, m0, ⟨fa, fn, fc⟩⟩ := p
  obtain ⟨⟨pa, pn, pc⟩, ⟨la, ln, lc⟩, r, ⟨ca, cn, cc⟩⟩ := v
  have HR := Lib.hid h; have HF := Lib.hid hf; have HS := Lib.hid hs; have HSF := Lib.hid hsf; have HG := Lib.hid hG
  obtain ⟨_, cap9, ec, hc1, hc2⟩ := readR_len hf.c
  have ec2 : Value.slice ca cn cc = .slice _ f.code.length cap9 := ec
  injection ec2 with ec3 ec4 ec5
  subst ec4
  clear ec3
  have HK0 := Lib.hid hk0
  have HK2 := Lib.hid hk2
  obtain ⟨R, hR⟩ : ∃ R, R = funM P f := ⟨_, rfl⟩
  have HRR := Lib.hid hR
  rw [← hR]
  have n1 : (f.code.length : Int) ≤ 200 := by omega
  have n0 : (0 : Int) < f.code.length := by omega
  have key1 : ∀ w : World, (Instr.makeSlice 88 (.int .i64 f.code.length) (.int .i64 f.code.length)).run Try.prog w = .ok (.slice (some ⟨w.heap.size, 0, none⟩) f.code.length f.code.length) (w.alloc (.cells (mkF f.code.length) 92)) := fun w => run_makeR (c := factE) rowFct _ _ f.code.length (by omega) (by omega) w
  have key2 : ∀ w : World, (Instr.makeSlice 96 (.int .i64 f.code.length) (.int .i64 f.code.length)).run Try.prog w = .ok (.slice (some ⟨w.heap.size, 0, none⟩) f.code.length f.code.length) (w.alloc (.cells (mkO f.code.length) 4)) := fun w => run_makeR (c := bolE) rowBol _ _ f.code.length (by omega) (by omega) w
  clear h hf hs hsf hG ec hc1 hc2 ec5 hR hk0 hk2
  unfold aggP aggF Sl.v
  simp only
  go_enter Try.func78, Try.ntmps78
  go_upto_region 2 with fail
  refine wp_named ?_
  intro W hW
  obtain ⟨q1, q2, q3⟩ := boxes2 w #[.bool u, .slice ga gn gc, .int .i64 m0, .slice fa fn fc] #[.slice pa pn pc, .slice la ln lc, .int .i64 r, .slice ca f.code.length cc] 31 122
  rw [← hW] at q1 q2 q3
  have HBW := Lib.hid q3
  have HK : Hid (∀ w', Below W.heap.size W w' → (w'.cell? ⟨w.heap.size, 0, none⟩ = some (.bool u) ∧ w'.cell? ⟨w.heap.size, 1, none⟩ = some (.slice ga gn gc) ∧ w'.cell? ⟨w.heap.size, 2, none⟩ = some (.int .i64 m0) ∧ w'.cell? ⟨w.heap.size, 3, none⟩ = some (.slice fa fn fc)) ∧ (w'.cell? ⟨w.heap.size + 1, 0, none⟩ = some (.slice pa pn pc) ∧ w'.cell? ⟨w.heap.size + 1, 1, none⟩ = some (.slice la ln lc) ∧ w'.cell? ⟨w.heap.size + 1, 2, none⟩ = some (.int .i64 r) ∧ w'.cell? ⟨w.heap.size + 1, 3, none⟩ = some (.slice ca f.code.length cc))) := Lib.hid (fun w' hb => by
    obtain ⟨y0, y1, y2, y3, _⟩ := blk4 (blk_below q1 hb)
    obtain ⟨z0, z1, z2, z3, _⟩ := blk4 (blk_below q2 hb)
    exact ⟨⟨y0, y1, y2, y3⟩, ⟨z0, z1, z2, z3⟩⟩)
  have HZ : Hid (∀ w', Below W.heap.size W w' → w.heap.size < w'.heap.size ∧ w.heap.size + 1 < w'.heap.size) := Lib.hid (fun w' hb => ⟨(blk_below q1 hb).1, (blk_below q2 hb).1⟩)
  clear hW q1 q2 q3
  go_cut [8] (fun v wx => ∃ c g o, v = .pointer (some ⟨c, 0, none⟩) ∧ W.heap.size ≤ c ∧ W.heap.size ≤ g ∧ W.heap.size ≤ o ∧ Hid (Below W.heap.size W wx) ∧ Hid (ChkAt wx c g o f.code.length (List.replicate f.code.length (false, ⟨none, 0, 0⟩)) (List.replicate f.code.length false) (List.replicate f.code.length none)))
  case first =>
    have HA := Lib.hid (chk_startA W f.code.length 166)
    have HB := Lib.hid (chk_startB W f.code.length 166)
    go_region
    all_goals
      go_wp2_with fail
      go_meet
      case rel => first | exact ⟨W.heap.size + 2, W.heap.size, W.heap.size + 1, rfl, by omega, by omega, by omega, by (repeat' (first | exact Below.refl _ _ | assumption | refine b_alloc ?_ _ | refine b_over ?_ _ | refine b_drew ?_ | refine b_call ?_ (by assumption))), HA⟩ | exact ⟨W.heap.size + 2, W.heap.size + 1, W.heap.size, rfl, by omega, by omega, by omega, by (repeat' (first | exact Below.refl _ _ | assumption | refine b_alloc ?_ _ | refine b_over ?_ _ | refine b_drew ?_ | refine b_call ?_ (by assumption))), HB⟩ | exact ⟨W.heap.size + 2, W.heap.size, W.heap.size + 1, rfl, by omega, by omega, by omega, Lib.hid (by (repeat' (first | exact Below.refl _ _ | assumption | refine b_alloc ?_ _ | refine b_over ?_ _ | refine b_drew ?_ | refine b_call ?_ (by assumption)))), Lib.hid (chk_below HA.out (b_drew (Below.refl _ _)))⟩ | exact ⟨W.heap.size + 2, W.heap.size + 1, W.heap.size, rfl, by omega, by omega, by omega, Lib.hid (by (repeat' (first | exact Below.refl _ _ | assumption | refine b_alloc ?_ _ | refine b_over ?_ _ | refine b_drew ?_ | refine b_call ?_ (by assumption)))), Lib.hid (chk_below HB.out (b_drew (Below.refl _ _)))⟩
  case rest =>
  obtain ⟨c, g, o, rfl, hc1, hg1, ho1, HB0, HC0⟩ := hcut
  obtain ⟨W1, hW1⟩ : ∃ W1, W1 = wc := ⟨_, rfl⟩
  subst hW1
  go_wp2_with fail
  have HMN := Lib.hid (vmeet_new (k := 0) (st := []) (sa := none) (sc := 0) HC0.out HK0.out HK2.out (readI_nil _) (by rw [List.getD_eq_getElem?_getD, List.getElem?_replicate, if_pos HK0.out]; rfl))
  refine HMN.out.mono ?_
  rintro e w2 ⟨rfl, ⟨F2, hch2⟩, hgx2⟩
  have HC2 := Lib.hid hch2
  have HB2 := Lib.hid (b_gx HB0.out hgx2 (fun k hk => hk.elim (fun e => by rw [e]; exact hg1) (fun e => by rw [e]; exact ho1)))
  have HRN : Hid (Rnd W w2 c g o f.code.length P f (start f.code.length) R) := Lib.hid (by
    have e : start f.code.length = ⟨(List.replicate f.code.length none).set 0 (some []), (List.replicate f.code.length false).set 0 true⟩ := by
      unfold start meetM
      rw [show (List.replicate f.code.length (none : Option (List Int))).getD 0 none = none by rw [List.getD_eq_getElem?_getD, List.getElem?_replicate, if_pos HK0.out]; rfl]
    refine ⟨HB2.out, ⟨F2, by rw [e]; exact hch2⟩, ?_, ⟨2 * f.code.length, by rw [HRR.out]; rfl, ?_⟩⟩
    · intro k x hx
      rw [e] at hx
      simp only at hx
      rw [List.getD_eq_getElem?_getD, List.getElem?_set] at hx
      split at hx
      · split at hx
        · simp at hx; subst hx; simp
        · simp at hx
      · rw [List.getElem?_replicate] at hx
        split at hx <;> simp at hx
    · have h1 := muF_set (List.replicate f.code.length none) 0 [] (by simpa using HK0.out) (by rw [List.getD_eq_getElem?_getD, List.getElem?_replicate, if_pos HK0.out]; rfl)
      have h2 := muO_true (List.replicate f.code.length false) 0
      have h3 : ∀ m, muF (List.replicate m none) = 2 * m := fun m => by
        induction m with
        | zero => rfl
        | succ m ih => rw [List.replicate_succ]; simp only [muF]; omega
      have h4 : ∀ m, muO (List.replicate m false) = 0 := fun m => by
        induction m with
        | zero => rfl
        | succ m ih => rw [List.replicate_succ]; simp only [muO]; exact ih
      have h5 := h3 f.code.length
      have h6 := h4 f.code.length
      have h7 : mu (start f.code.length) = muF ((List.replicate f.code.length none).set 0 (some [])) + muO ((List.replicate f.code.length false).set 0 true) := by rw [e]; rfl
      omega)
  obtain ⟨s0, hs0⟩ : ∃ s0, s0 = start f.code.length := ⟨_, rfl⟩
  rw [← hs0] at HRN
  obtain ⟨F0, hF0⟩ := HRN.out.ck
  have HI0 := Lib.hid (idxb_any hF0.ob hF0.lo HK2.out)
  obtain ⟨c0, c1, cf⟩ := blk2 hF0.hd
  clear hch2 hgx2 hs0 hF0 key1 key2 HC0 HC2
  go_wp2_with fail
  refine HI0.out.mono ?_
  rintro e w3 ⟨rfl, rfl⟩
  clear c0 c1 cf HI0 HB2
  go_wp2_with fail
  go_loopw [9] (fun i wr => ∃ s : StM, i = .int .i64 (idxB s.O) ∧ Hid (Rnd W wr c g o f.code.length P f s R)) (fun _ wr => muW wr g o f.code.length)
  case atStart => exact ⟨s0, rfl, HRN⟩
  case round =>
    obtain ⟨s, rfl, hrn⟩ := hrel
    obtain ⟨F, hF⟩ := hrn.out.ck
    have HCK := Lib.hid hF
    obtain ⟨c0, c1, cf⟩ := blk2 hF.hd
    cases hft : firstT s.O with
    | none =>
      have HRM : Hid (R = .inl s.F) := Lib.hid (by obtain ⟨fuel, e, _⟩ := hrn.out.r; rw [e]; exact runV_stop hft fuel)
      have HIX : Hid (idxB s.O = -1) := Lib.hid (by unfold idxB; rw [hft])
      rw [HIX.out]
      clear hF hft
      go_wp2_with fail
      go_ret3
      show RetFun w f.code.length R _ _
      rw [HRM.out]
      exact ⟨⟨g, F, rfl, HCK.out.fr, HCK.out.ng, HCK.out.lf, HCK.out.ok, Nat.le_trans HBW.out.size hg1, HCK.out.ty, hrn.out.sm⟩, b_call HBW.out hrn.out.be⟩
    | some k =>
      have HIX : Hid (idxB s.O = k) := Lib.hid (by unfold idxB; rw [hft])
      rw [HIX.out]
      obtain ⟨ho1', ho2', ho3'⟩ := muO_first _ _ hft
      have hk : k < f.code.length := by rw [hF.lo] at ho1'; exact ho1'
      have hkF : k < F.length := by rw [hF.lf]; exact hk
      obtain ⟨fuel, hfu, hfm⟩ := hrn.out.r
      obtain ⟨n, hn1, hn2, hn3⟩ := run_step (P := P) (f := f) hft hfm
      have HRUN := Lib.hid (hfu.trans hn3)
      have HMUn := Lib.hid hn2
      have HMUS : Hid (mu ⟨s.F, s.O.set k false⟩ + 1 = muW wr g o f.code.length) := Lib.hid (by
        rw [muW_of hF]
        show muF s.F + muO (s.O.set k false) + 1 = _
        omega)
      have hcl := chk_close hF hk
      have o0 := bol_at hF.ob ho1'
      have oz := hF.ob.2.2
      have olt := hF.ob.1
      have hoc : ¬ (o = c) := fun e => hF.e2 e.symm
      have hog : ¬ (o = g) := fun e => hF.e3 e.symm
      have HCL := Lib.hid hcl
      have k0 : (0 : Int) ≤ k := by omega
      have k1 : (k : Int) < f.code.length := by omega
      have HBE : Hid (Below W.heap.size W (wr.setCell ⟨o, k, none⟩ (.bool false))) := Lib.hid (b_grown hrn.out.be (gb_set (gb_refl _ (some o)) _ _ _) ho1)
      have HSM := Lib.hid hrn.out.sm
      have HKLT := Lib.hid hk
      have HKF := Lib.hid hkF
      replace o0 : wr.cell? ⟨o, k, none⟩ = some (.bool true) := by rw [o0]; rw [List.getD_eq_getElem?_getD, List.getElem?_eq_getElem ho1'] at ho2'; simpa using ho2'
      clear hF hft hcl ho2' ho3' hfu hfm hn1 hn2 hn3 hk hkF ho1' hrn
      obtain ⟨W3, hW3⟩ : ∃ W3, W3 = wr.setCell ⟨o, k, none⟩ (.bool false) := ⟨_, rfl⟩
      have HW3 := Lib.hid hW3
      rw [← hW3] at HCL HBE
      clear hW3
      obtain ⟨KD, hKD⟩ : ∃ KD, KD = (s.F.getD k none).getD [] := ⟨_, rfl⟩
      have HKD16 : Hid (KD.length ≤ 16) := Lib.hid (by
        rw [hKD]
        cases hx : s.F.getD k none with
        | none => simp
        | some x => exact HSM.out k x hx)
      rw [← hKD] at HRUN
      have hd2 := (HCL.out.ok.2 k HKF.out).2
      rw [← hKD] at hd2
      obtain ⟨da, dc, edc, hrd, _, _⟩ := readI_row hd2
      have fa1 := (fact_at HCL.out.fr HKF.out).2
      have edc2 : Value.slice F[k].2.a F[k].2.n F[k].2.c = .slice da KD.length dc := edc
      replace fa1 := fa1.trans (congrArg some edc2)
      have HRD := Lib.hid hrd
      have HS3 : Hid (∀ w', Below W3.heap.size W3 w' → (w'.cell? ⟨w.heap.size, 0, none⟩ = some (.bool u) ∧ w'.cell? ⟨w.heap.size, 1, none⟩ = some (.slice ga gn gc) ∧ w'.cell? ⟨w.heap.size, 2, none⟩ = some (.int .i64 m0) ∧ w'.cell? ⟨w.heap.size, 3, none⟩ = some (.slice fa fn fc)) ∧ (w'.cell? ⟨w.heap.size + 1, 0, none⟩ = some (.slice pa pn pc) ∧ w'.cell? ⟨w.heap.size + 1, 1, none⟩ = some (.slice la ln lc) ∧ w'.cell? ⟨w.heap.size + 1, 2, none⟩ = some (.int .i64 r) ∧ w'.cell? ⟨w.heap.size + 1, 3, none⟩ = some (.slice ca f.code.length cc)) ∧ w'.cell? ⟨c, 0, none⟩ = some (.slice (some ⟨g, 0, none⟩) f.code.length f.code.length) ∧ w'.cell? ⟨g, k * 2 + 1, none⟩ = some (.slice da KD.length dc)) := Lib.hid (fun w' hb => by
        obtain ⟨a1, a2⟩ := HK.out w' (b_call HBE.out hb)
        obtain ⟨b0, _, _⟩ := blk2 (blk_below HCL.out.hd hb)
        exact ⟨a1, a2, b0, ((bcell hb).1 _ _ HCL.out.fr.1).trans fa1⟩)
      clear hKD hd2 edc edc2 hrd fa1
      go_upto_region 8 with fail
      refine wp_named ?_
      intro W3' hW3'
      obtain rfl : W3' = W3 := hW3'.trans HW3.out.symm
      clear hW3' o0 oz olt c0 c1 cf
      refine wp_region_held_drew (S := fun w' => (w'.cell? ⟨w.heap.size, 0, none⟩ = some (.bool u) ∧ w'.cell? ⟨w.heap.size, 1, none⟩ = some (.slice ga gn gc) ∧ w'.cell? ⟨w.heap.size, 2, none⟩ = some (.int .i64 m0) ∧ w'.cell? ⟨w.heap.size, 3, none⟩ = some (.slice fa fn fc)) ∧ (w'.cell? ⟨w.heap.size + 1, 0, none⟩ = some (.slice pa pn pc) ∧ w'.cell? ⟨w.heap.size + 1, 1, none⟩ = some (.slice la ln lc) ∧ w'.cell? ⟨w.heap.size + 1, 2, none⟩ = some (.int .i64 r) ∧ w'.cell? ⟨w.heap.size + 1, 3, none⟩ = some (.slice ca f.code.length cc)) ∧ w'.cell? ⟨c, 0, none⟩ = some (.slice (some ⟨g, 0, none⟩) f.code.length f.code.length) ∧ w'.cell? ⟨g, k * 2 + 1, none⟩ = some (.slice da KD.length dc)) (by kernel_rfl) (HS3.out _ (b_drew (Below.refl _ _))) (fun hHeld => ?_)
      refine atI 0 ?_
      iterate 11 (refine takeN (v := ?_) rfl (by rfl) ?_ hHeld ?_; rotate_left; (focus (intro w hSw; (try dsimp only at hSw); go_simp; try (with_reducible rfl))); (try simp only [Act.put, Nat.reduceAdd, List.getElem_toArray, List.getElem_cons_succ, List.getElem_cons_zero, List.setIfInBounds_toArray, List.set_cons_zero, List.set_cons_succ]))
      refine atIo ?_
      refine wpAnyH_ready (rs := [11]) (by kernel_rfl) (by simp) (AllReadyH.cons rfl (fun K hK => ?_) AllReadyH.nil)
      go_simp
      refine (veff_any ⟨u, ⟨ga, gn, gc⟩, m0, ⟨fa, fn, fc⟩⟩ P ⟨⟨pa, pn, pc⟩, ⟨la, ln, lc⟩, r, ⟨ca, f.code.length, cc⟩⟩ f k da dc KD _ (readP_below HR.out (b_drew (b_call HBW.out HBE.out))) HS.out (deepF_below HF.out (b_drew (b_call HBW.out HBE.out))) HSF.out (readI_below HRD.out (b_drew (Below.refl _ _))) (by have := HKD16.out; omega) HKLT.out HK2.out HG.out).mono ?_
      have HEO := Lib.hid (eff_on (P := P) (f := f) (k := k) (st := KD) HG.out HKLT.out)
      generalize effect P f k KD = E at *
      rintro e w4 ⟨ba, bc, oa, oc, rfl, hrt, hrp, hb4⟩
      have HB4 := Lib.hid (b_call (b_drew (Below.refl W3'.heap.size W3')) hb4)
      have HRT := Lib.hid hrt; have HRP := Lib.hid hrp
      clear hrt hrp hb4
      refine hK.out _ _ (HS3.out _ HB4.out) (fun hHeld => ?_)
      clear hK K
      (try simp only [Act.put, List.getElem_toArray, List.getElem_cons_succ, List.getElem_cons_zero, List.setIfInBounds_toArray, List.set_cons_zero, List.set_cons_succ])
      refine atI 12 ?_
      iterate 7 (refine takeN (v := ?_) rfl (by rfl) ?_ hHeld ?_; rotate_left; (focus (intro w hSw; (try dsimp only at hSw); go_simp; try (with_reducible rfl))); (try simp only [Act.put, Nat.reduceAdd, List.getElem_toArray, List.getElem_cons_succ, List.getElem_cons_zero, List.setIfInBounds_toArray, List.set_cons_zero, List.set_cons_succ]))
      refine atIo ?_
      refine wpAnyH_done (by kernel_rfl) ?_ _
      have HB04 := Lib.hid (b_call HBE.out HB4.out)
      by_cases hc : E.c = 0
      case neg =>
        have hcn : (E.c != 0) = true := bne_iff_ne.2 hc
        have HRE : Hid (R = .inr ((k : Int), E.c)) := Lib.hid (by rw [HRUN.out, if_pos hc])
        clear hc
        go_wp2_with fail
        go_ret3
        show RetFun w f.code.length R _ _
        rw [HRE.out]
        exact ⟨rfl, b_call HBW.out HB04.out⟩
      case pos =>
        obtain ⟨HE1, HE2, HE3⟩ := HEO.out hc
        have HEP := Lib.hid HE1
        have HET := Lib.hid HE2
        have hp2 : (E.p.length : Int) ≤ 2 := by omega
        have hoc1 : (E.p.length : Int) ≤ oc := by have := (int_len (s := ⟨oa, E.p.length, oc⟩) HRP.out).2.1; simp only at this; omega
        have hoc2 : (oc : Int) ≤ 9223372036854775807 := by have := (int_len (s := ⟨oa, E.p.length, oc⟩) HRP.out).2.2; simp only at this; omega
        have HRUN2 : Hid (R = match meets ⟨s.F, s.O.set k false⟩ E.t E.p with | .inr j => .inr (j, 4) | .inl s' => runV P f n s') := Lib.hid (by rw [HRUN.out, if_neg (by simp [hc])])
        have HLP : Hid (LP W w4 c g o f.code.length ⟨s.F, s.O.set k false⟩ E ba bc oa oc 0 ⟨s.F, s.O.set k false⟩) := Lib.hid ⟨HB04.out, ⟨F, chk_below HCL.out HB4.out⟩, HSM.out, by rw [List.drop_zero], Nat.le_refl _, HRT.out, HRP.out⟩
        clear HE1 HE2 HE3 HEO
        rw [hc]
        clear hc
        go_wp2_with fail
        go_loopw [66] (fun i w5 => ∃ (j : Nat) (s' : StM), i = .int .i64 j ∧ j ≤ E.p.length ∧ Hid (LP W w5 c g o f.code.length ⟨s.F, s.O.set k false⟩ E ba bc oa oc j s')) (fun i _ => E.p.length - (intOf i).toNat)
        case atStart => exact ⟨0, _, rfl, Nat.zero_le _, HLP⟩
        case round =>
          obtain ⟨j, s', rfl, hj, hlp⟩ := hrel
          obtain ⟨F', hF'⟩ := hlp.out.ck
          have HCK' := Lib.hid hF'
          have j0 : (0 : Int) ≤ j := by omega
          by_cases hlt : j < E.p.length
          · obtain ⟨bl, off, cp, e1, r1, r2, hbl, r4⟩ := readI_pos hlp.out.rp (by omega)
            injection e1 with e1 _ e3
            subst e1
            have j1 : (j : Int) < E.p.length := by omega
            have hcx := r4 j hlt
            rw [List.getD_eq_getElem?_getD, List.getElem?_eq_getElem hlt, Option.getD_some] at hcx
            obtain ⟨xx0, xx1⟩ := HEP.out _ (List.getElem_mem hlt)
            have HDR : Hid (E.p.drop j = E.p[j] :: E.p.drop (j + 1)) := Lib.hid (List.drop_eq_getElem_cons hlt)
            generalize E.p[j] = xi at *
            obtain ⟨x, rfl⟩ : ∃ x : Nat, xi = x := ⟨xi.toNat, by omega⟩
            have hx : x < f.code.length := by omega
            have HX := Lib.hid hx
            have HFL := Lib.hid (show mu (meetM s' x E.t).2 ≤ mu s' ∧ (meetM s' x E.t).2.F.length = s'.F.length ∧ (meetM s' x E.t).2.O.length = s'.O.length from meet_mu (by rw [← hF'.ok.1, hF'.lf]; exact hx))
            clear r4 e3 xx0 xx1 hx
            cases hm : s'.F.getD x none with
            | some y =>
              have HM : Hid (meetM s' x E.t = (decide (y = E.t), s')) := Lib.hid (by unfold meetM; rw [hm])
              have HMC := Lib.hid (vmeet_met (k := x) (st := E.t) (sa := ba) (sc := bc) hF' HX.out HK2.out hlp.out.rt hm (by have := hlp.out.sm x y hm; omega) (by have := HET.out; omega))
              clear hm hF'
              by_cases hy : y = E.t
              · rw [decide_eq_true hy] at HMC
                have HM2 : Hid (meetM s' x E.t = (true, s')) := Lib.hid (by rw [HM.out, decide_eq_true hy])
                clear hy
                go_wp2_with fail
                refine HMC.out.mono ?_
                rintro e w6 ⟨rfl, hb6⟩
                have HLP6 : Hid (LP W w6 c g o f.code.length ⟨s.F, s.O.set k false⟩ E ba bc (some ⟨bl, off, none⟩) oc (j + 1) s') := Lib.hid ⟨b_call hlp.out.be hb6, ⟨F', chk_below HCK'.out hb6⟩, hlp.out.sm, by
                  rw [hlp.out.me, HDR.out, meets]
                  rw [show ((x : Int).toNat) = x from rfl, HM2.out]
                  rfl, hlp.out.mu, readI_below hlp.out.rt hb6, readI_below hlp.out.rp hb6⟩
                clear hb6
                go_wp2_with fail
                go_roundw
                case rel => exact ⟨j + 1, s', by first | rfl | go_num, by omega, HLP6⟩
                case measure => simp [intOf]; omega
              · rw [decide_eq_false hy] at HMC
                have HRE : Hid (R = .inr ((x : Int), 4)) := Lib.hid (by
                  rw [HRUN2.out, hlp.out.me, HDR.out, meets]
                  rw [show ((x : Int).toNat) = x from rfl, HM.out, decide_eq_false hy]
                  rfl)
                clear hy
                go_wp2_with fail
                refine HMC.out.mono ?_
                rintro e w6 ⟨rfl, hb6⟩
                have HBZ := Lib.hid (b_call hlp.out.be hb6)
                clear hb6
                go_wp2_with fail
                go_ret3
                show RetFun w f.code.length R _ _
                rw [HRE.out]
                exact ⟨rfl, b_call HBW.out HBZ.out⟩
            | none =>
              have HM : Hid (meetM s' x E.t = (true, ⟨s'.F.set x (some E.t), s'.O.set x true⟩)) := Lib.hid (by unfold meetM; rw [hm])
              have HMC := Lib.hid (vmeet_new (k := x) (st := E.t) (sa := ba) (sc := bc) hF' HX.out HK2.out hlp.out.rt hm)
              clear hm
              go_wp2_with fail
              refine HMC.out.mono ?_
              rintro e w6 ⟨rfl, ⟨F6, hch6⟩, hgx6⟩
              have HLP6 : Hid (LP W w6 c g o f.code.length ⟨s.F, s.O.set k false⟩ E ba bc (some ⟨bl, off, none⟩) oc (j + 1) ⟨s'.F.set x (some E.t), s'.O.set x true⟩) := Lib.hid (by
                have hmm := meet_sm (s := s') (k := x) (st := E.t) hlp.out.sm HET.out
                have hfl := HFL.out.1
                rw [HM.out] at hmm hfl
                have hrd2 : ∀ v xs, ReadI wr v xs → ReadI w6 v xs := fun v xs hv => by
                  rcases Nat.eq_zero_or_pos xs.length with q | q
                  · obtain ⟨a, cap, rfl, e1, e2, e3, _⟩ := hv
                    exact ⟨a, cap, rfl, e1, e2, e3, fun hp => by omega⟩
                  · obtain ⟨b, ofs, cz, rfl, _, _, h3, h4⟩ := readI_pos hv q
                    refine readI_kept hv (fun b' hb' hlt' => hgx6.block b' hlt' ?_) hgx6.size
                    have eb : b = b' := by injection hb'
                    subst eb
                    rintro (z | z)
                    · exact hF'.ng (ofs + 0) _ (by rw [← z]; exact h4 0 q)
                    · exact hF'.no (ofs + 0) _ (by rw [← z]; exact h4 0 q)
                refine ⟨b_gx hlp.out.be hgx6 (fun k hk => hk.elim (fun e => by rw [e]; exact hg1) (fun e => by rw [e]; exact ho1)), ⟨F6, hch6⟩, hmm, ?_, Nat.le_trans hfl hlp.out.mu, hrd2 _ _ hlp.out.rt, hrd2 _ _ hlp.out.rp⟩
                rw [hlp.out.me, HDR.out, meets]
                rw [show ((x : Int).toNat) = x from rfl, HM.out]
                rfl)
              clear hch6 hgx6 hF'
              go_wp2_with fail
              go_roundw
              case rel => exact ⟨j + 1, _, by first | rfl | go_num, by omega, HLP6⟩
              case measure => simp [intOf]; omega
          · have j1 : ¬ ((j : Int) < E.p.length) := by omega
            have HME : Hid (meets ⟨s.F, s.O.set k false⟩ E.t E.p = .inl s') := Lib.hid (by rw [hlp.out.me, List.drop_of_length_le (by omega)]; rfl)
            have HI2 := Lib.hid (idxb_any hF'.ob hF'.lo HK2.out)
            obtain ⟨c0, c1, cf⟩ := blk2 hF'.hd
            clear hF'
            go_wp2_with fail
            refine HI2.out.mono ?_
            rintro e w6 ⟨rfl, rfl⟩
            go_wp2_with fail
            go_roundw
            case rel => exact ⟨s', rfl, Lib.hid ⟨hlp.out.be, ⟨F', HCK'.out⟩, hlp.out.sm, ⟨n, by rw [HRUN2.out, HME.out], Nat.le_trans hlp.out.mu HMUn.out⟩⟩⟩
            case measure =>
              rw [muW_of HCK'.out]
              have h1 := hlp.out.mu
              have h2 := HMUS.out
              have h3 : mu s' = muF s'.F + muO s'.O := rfl
              omega
def RetIT (w : World) (xs : List Int) (e : Ending) (w' : World) : Prop := ∃ a c, e = .returned (.slice a xs.length c) ∧ ReadI w' (.slice a xs.length c) xs ∧ slOk w' 3 a xs.length ∧ Below w.heap.size w w'
set_option maxHeartbeats 800000 in
theorem iclone_any {w : World} {a : Option Addr} {c : Nat} {xs : List Int} (h : ReadI w (.slice a xs.length c) xs) (hl : xs.length ≤ 100) : Calls Try.prog 79 #[.slice a xs.length c] w (RetIT w xs) := by
  have HR := Lib.hid h
  have HL := Lib.hid hl
  cases a with
  | none =>
    obtain ⟨_, _, e, h1, h2, h3, _⟩ := h
    injection e with e1 e2 e3
    have hc : c = 0 := by rw [e3]; exact h3 e1.symm
    have hx : xs = [] := List.eq_nil_of_length_eq_zero (by rw [e3] at hc; omega)
    subst hc hx
    simp only [List.length_nil]
    have t0 := fun (w : World) => Lib.run_eql_slice_nil (P := Try.prog) w 22 3 none 0 0 0 0 Try.underlying22
    simp only [Option.isNone_none] at t0
    clear e1 e2 e3 h1 h2 h3 hl
    go_enter Try.func79, Try.ntmps79
    go_wp2_with fail
    go_ret
    exact ⟨none, 0, rfl, readI_nil _, Or.inl rfl, Below.refl _ _⟩
  | some ad =>
    have t0 := fun (w : World) => Lib.run_eql_slice_nil (P := Try.prog) w 22 3 (some ad) xs.length c 0 0 Try.underlying22
    simp only [Option.isNone_some] at t0
    clear h hl
    go_enter Try.func79, Try.ntmps79
    go_wp2_with (at_builtin; refine appendI rfl _ _ rfl w.heap.size _ [] rfl (own_empty (Nat.le_refl _)) _ xs rfl (readI_below HR.out (b_alloc (Below.refl _ _) _)) ?c1 ?c2 ?_; (case c1 => (have := HL.out; simp only [List.length_nil]; omega)); (case c2 => (simp)); intro v5 w5 own5 hg5; rw [List.nil_append] at own5; obtain ⟨a5, k5, rfl⟩ := readI_len (ownI_read own5); have OW5 := Lib.hid own5; have HB5 := Lib.hid (b_own (b_alloc (Below.refl w.heap.size w) _) (own_empty (Nat.le_refl _)) hg5); clear own5 hg5)
    go_ret
    exact ⟨a5, k5, rfl, ownI_read OW5.out, ownI_slOk OW5.out, HB5.out⟩
/-- A row of facts, typed. -/
structure RowT (w : World) (g n : Nat) (F : List (Bool × Sl)) (M : List (Option (List Int))) : Prop where
  fr : Blk w g (factE.row F)
  ty : tyB w g = some FCT
  lf : F.length = n
  lm : M.length = n
  ok : ∀ k, (h : k < F.length) → F[k].1 = (M.getD k none).isSome ∧ ReadI w F[k].2.v ((M.getD k none).getD []) ∧ slOk w 3 F[k].2.a F[k].2.n
theorem slOk_below {w w' : World} {a : Option Addr} {n : Nat} (h : slOk w 3 a n) (hb : Below w.heap.size w w') : slOk w' 3 a n := slOk_keep h (fun k hk => tyB_call hk hb)
theorem rowT_below {w w' : World} {g n : Nat} {F : List (Bool × Sl)} {M : List (Option (List Int))} (h : RowT w g n F M) (hb : Below w.heap.size w w') : RowT w' g n F M :=
  ⟨blk_below h.fr hb, tyB_call h.ty hb, h.lf, h.lm, fun k hk => ⟨(h.ok k hk).1, readI_below (h.ok k hk).2.1 hb, slOk_below (h.ok k hk).2.2 hb⟩⟩
def SLT : TypeId := 88
/-- A block of another type turns. -/
theorem rowT_grown {w w' : World} {g n : Nat} {F : List (Bool × Sl)} {M : List (Option (List Int))} {r : Option Nat} (h : RowT w g n F M) (hg : w.grownBy w' r) (hr : ∀ j, r = some j → ∃ T, tyB w j = some T ∧ T ≠ FCT ∧ T ≠ 3) : RowT w' g n F M := by
  have hne : ∀ (T : TypeId), (T = FCT ∨ T = 3) → ∀ k, tyB w k = some T → some k ≠ r := fun T hT k hk e => by
    obtain ⟨T', h1, h2, h3⟩ := hr k e.symm
    rw [hk] at h1; injection h1 with h1; subst h1
    exact hT.elim h2 h3
  refine ⟨blk_grown h.fr hg (hne FCT (Or.inl rfl) g h.ty), tyB_grown h.ty hg (hne FCT (Or.inl rfl) g h.ty), h.lf, h.lm, fun k hk => ⟨(h.ok k hk).1, ?_, ?_⟩⟩
  · have q := (h.ok k hk).2.1
    have s := (h.ok k hk).2.2
    exact readR_I (readR_apart (readI_R q) s hg.size (fun j hj => hg.block j (tyB_lt hj) (fun e => hne 3 (Or.inr rfl) j hj e)))
  · exact slOk_keep (h.ok k hk).2.2 (fun j hj => tyB_grown hj hg (hne 3 (Or.inr rfl) j hj))
def slE : Elt (Nat × Nat) where
  cells := fun s => [.slice (some ⟨s.1, 0, none⟩) s.2 s.2]
  size := 1
  pos := by decide
  len := fun _ => rfl
  one := fun r u hu => by
    simp only [List.mem_cons, List.not_mem_nil, or_false] at hu
    subst hu; rfl
theorem rowSl : IsRow Try.prog 76 SLT 1 24 (.slice none 0 0) := ⟨Try.underlying76, by kernel_rfl, by rfl⟩
/-- The rows of all functions that were gone through. -/
def AllR (w : World) (L : List (Nat × Nat)) (Ms : List (List (Option (List Int)))) : Prop := L.length = Ms.length ∧ ∀ k, (h : k < L.length) → (h' : k < Ms.length) → ∃ F, RowT w L[k].1 L[k].2 F Ms[k]
theorem allR_snoc {w : World} {L : List (Nat × Nat)} {Ms : List (List (Option (List Int)))} {s : Nat × Nat} {M : List (Option (List Int))} (h : AllR w L Ms) (hr : ∃ F, RowT w s.1 s.2 F M) : AllR w (L ++ [s]) (Ms ++ [M]) := by
  refine ⟨by simp [h.1], fun k hk hk' => ?_⟩
  by_cases e : k < L.length
  · rw [List.getElem_append_left e, List.getElem_append_left (by rw [← h.1]; exact e)]
    exact h.2 k e (by rw [← h.1]; exact e)
  · have e2 : k = L.length := by simp at hk; omega
    subst e2
    rw [List.getElem_append_right (Nat.le_refl _), List.getElem_append_right (by rw [h.1]; exact Nat.le_refl _)]
    simpa [h.1] using hr
def chkFs (P : PrM) : List FnM → Nat → Sum (List (List (Option (List Int)))) (Int × Int × Int)
  | [], _ => .inl []
  | f :: fs, k => match funM P f with
    | .inr x => .inr ((k : Int), x.1, x.2)
    | .inl M => match chkFs P fs (k + 1) with
      | .inl Ms => .inl (M :: Ms)
      | .inr y => .inr y
def checkM (P : PrM) : Sum (List (List (Option (List Int)))) (Int × Int × Int) :=
  if mayP P = true then (if (P.fs.getD 0 fzM).ps ≠ [] ∨ (P.fs.getD 0 fzM).r ≠ 0 then .inr (0, 0, 7) else chkFs P P.fs 0) else .inr (0, 0, 5)
def wrongV (a b c : Int) : Value := .agg #[.int .i64 a, .int .i64 b, .int .i64 c]
def RetChk (w : World) (R : Sum (List (List (Option (List Int)))) (Int × Int × Int)) (e : Ending) (w' : World) : Prop :=
  (match R with
    | .inl Ms => ∃ a c L, e = .returned (.tuple #[.slice a L.length c, wrongV 0 0 0]) ∧ ReadR slE w' (.slice a L.length c) L ∧ AllR w' L Ms
    | .inr x => e = .returned (.tuple #[.slice none 0 0, wrongV x.1 x.2.1 x.2.2])) ∧ Below w.heap.size w w'
/-- How the rest is joined. -/
def joinC (Acc : List (List (Option (List Int)))) : Sum (List (List (Option (List Int)))) (Int × Int × Int) → Sum (List (List (Option (List Int)))) (Int × Int × Int)
  | .inl Ms => .inl (Acc ++ Ms)
  | .inr y => .inr y
theorem join_step {P : PrM} {f : FnM} {fs : List FnM} {k : Nat} {M : List (Option (List Int))} {Acc : List (List (Option (List Int)))} (h : funM P f = .inl M) : joinC Acc (chkFs P (f :: fs) k) = joinC (Acc ++ [M]) (chkFs P fs (k + 1)) := by
  rw [show chkFs P (f :: fs) k = (match chkFs P fs (k + 1) with | .inl Ms => .inl (M :: Ms) | .inr y => .inr y) by rw [chkFs, h]]
  cases chkFs P fs (k + 1) with
  | inl Ms => show Sum.inl (Acc ++ M :: Ms) = Sum.inl (Acc ++ [M] ++ Ms); rw [List.append_assoc]; rfl
  | inr y => rfl
theorem join_bad {P : PrM} {f : FnM} {fs : List FnM} {k : Nat} {x : Int × Int} {Acc : List (List (Option (List Int)))} (h : funM P f = .inr x) : joinC Acc (chkFs P (f :: fs) k) = .inr ((k : Int), x.1, x.2) := by
  rw [show chkFs P (f :: fs) k = .inr ((k : Int), x.1, x.2) by rw [chkFs, h]]
  rfl
theorem fn_at0 {w : World} {p : PrV} {P : PrM} (h : ReadP w p P) (hk : 0 < P.fs.length) : ∃ b o, p.f.a = some ⟨b, o, none⟩ ∧ b < w.heap.size ∧ ∃ v : FnV, DeepF w v (P.fs.getD 0 fzM) ∧ w.cell? ⟨b, o, none⟩ = some (.slice v.p.a v.p.n v.p.c) ∧ w.cell? ⟨b, o + 2, none⟩ = some (.int .i64 (P.fs.getD 0 fzM).r) := by
  obtain ⟨b, o, ea, hl, v, hd, e0, _, e2, _⟩ := fn_at h hk
  have e : P.fs.getD 0 fzM = P.fs[0] := by rw [List.getD_eq_getElem?_getD, List.getElem?_eq_getElem hk]; rfl
  rw [Nat.zero_mul, Nat.add_zero] at e0 e2
  exact ⟨b, o, ea, hl, v, e ▸ hd, e0, by rw [e]; exact e2⟩
/-- A program that may be: each of its functions is such as it must be. -/
theorem may_good {P : PrM} (h : mayP P = true) : 0 < P.fs.length ∧ SmallP P ∧ ∀ f ∈ P.fs, SmallF f ∧ GoodE P f ∧ 0 < f.code.length ∧ f.code.length ≤ 200 := by
  have ok := okP_of h
  refine ⟨by have := ok.f1; omega, small_ok ok, fun f hf => ?_⟩
  have o := ok.f f hf
  refine ⟨(small_ok ok).a f hf, ⟨?_, fun y hy => (ok.kg y hy).1, fun i hi => ?_⟩, by have := o.c1; omega, by have := o.c2; omega⟩
  · intro y hy
    rcases List.mem_append.1 hy with q | q
    · exact (o.kp y q).1
    · exact (o.kl y q).1
  · have q := o.i i hi
    unfold mayI mayB at q
    simp only [Bool.and_eq_true] at q
    obtain ⟨⟨⟨q1, q2⟩, q3⟩, q4⟩ := q
    have ha : 0 ≤ i.a := by
      unfold smallB at q3
      rw [Bool.or_eq_true, decide_eq_true_iff, Bool.and_eq_true, Bool.and_eq_true, decide_eq_true_iff, decide_eq_true_iff] at q3
      omega
    rcases kind_cases i.op with h1 | ⟨k, hk, e⟩
    · have e4 : kindOf i.op = 4 := by unfold kindOf; rw [if_pos h1]
      unfold shOk at q1
      rw [e4] at q1
      exact absurd q1 (by decide)
    · exact ⟨by omega, by omega, ha⟩
/-- A row of facts, the first i of them with stacks of their own. -/
structure CR (w : World) (g n : Nat) (F : List (Bool × Sl)) (M : List (Option (List Int))) (i : Nat) : Prop where
  fr : Blk w g (factE.row F)
  ty : tyB w g = some FCT
  ng : NoInt w g
  lf : F.length = n
  lm : M.length = n
  ok : ∀ k, (h : k < F.length) → F[k].1 = (M.getD k none).isSome ∧ ReadI w F[k].2.v ((M.getD k none).getD []) ∧ (k < i → slOk w 3 F[k].2.a F[k].2.n)
theorem cr_below {w w' : World} {g n i : Nat} {F : List (Bool × Sl)} {M : List (Option (List Int))} (h : CR w g n F M i) (hb : Below w.heap.size w w') : CR w' g n F M i :=
  ⟨blk_below h.fr hb, tyB_call h.ty hb, noInt_below h.ng h.fr.1 hb, h.lf, h.lm, fun k hk => ⟨(h.ok k hk).1, readI_below (h.ok k hk).2.1 hb, fun q => slOk_below ((h.ok k hk).2.2 q) hb⟩⟩
/-- The next one's stack is another row that reads so. -/
theorem cr_set {w : World} {g n i : Nat} {F : List (Bool × Sl)} {M : List (Option (List Int))} {a : Option Addr} {m c : Nat} (h : CR w g n F M i) (hi : i < F.length) (hr : ReadI w (.slice a m c) ((M.getD i none).getD [])) (hs : slOk w 3 a m) : CR (w.setCell ⟨g, i * 2 + 1, none⟩ (.slice a m c)) g n (F.set i (F[i].1, ⟨a, m, c⟩)) M (i + 1) := by
  have lg : i * 2 + 1 < (factE.row F).length := by rw [row_length]; show _ < F.length * 2; omega
  have g2 : w.grownBy (w.setCell ⟨g, i * 2 + 1, none⟩ (.slice a m c)) (some g) := gb_set (gb_refl _ _) _ _ _
  have hT : ∀ k, tyB w k = some 3 → (w.setCell ⟨g, i * 2 + 1, none⟩ (.slice a m c)).heap[k]? = w.heap[k]? := fun k hk => g2.block k (tyB_lt hk) (fun e => by
    injection e with e
    rw [e, h.ty] at hk
    injection hk with hk
    exact absurd hk (by decide))
  refine ⟨?_, by rw [tyB_set]; exact h.ty, noInt_set h.ng h.fr lg (fun i e => by cases e), by rw [List.length_set]; exact h.lf, h.lm, fun k hk => ?_⟩
  · have e1 : Blk (w.setCells g (i * 2) [.bool F[i].1, .slice a m c]) g (factE.row (F.set i (F[i].1, ⟨a, m, c⟩))) := blk_elt (c := factE) h.fr hi (F[i].1, ⟨a, m, c⟩)
    have f0 := (fact_at h.fr hi).1
    refine ⟨by simpa using h.fr.1, fun j hj => ?_, fun j => by rw [World.frozen?_setCell]; exact h.fr.2.2 j⟩
    rw [← e1.2.1 j hj]
    show _ = ((w.setCell ⟨g, i * 2, none⟩ (.bool F[i].1)).setCell ⟨g, i * 2 + 1, none⟩ (.slice a m c)).cell? ⟨g, j, none⟩
    by_cases e2 : j = i * 2 + 1
    · subst e2
      have f1 := (fact_at h.fr hi).2
      rw [World.cell?_setCell_same _ _ _ f1, World.cell?_setCell_same _ _ _ (by rw [World.cell?_setCell_other _ _ _ _ (fun z => by injection z with _ z; omega)]; exact f1)]
    · rw [World.cell?_setCell_other _ _ _ _ (fun z => e2 (by injection z with _ z; exact z.symm)), World.cell?_setCell_other _ _ _ _ (fun z => e2 (by injection z with _ z; exact z.symm))]
      by_cases e3 : j = i * 2
      · subst e3
        rw [World.cell?_setCell_same _ _ _ f0, f0]
      · rw [World.cell?_setCell_other _ _ _ _ (fun z => e3 (by injection z with _ z; exact z.symm))]
  · have hk' : k < F.length := by simpa using hk
    by_cases e : k = i
    · subst e
      rw [List.getElem_set_self]
      exact ⟨(h.ok k hk').1, readI_no hr h.ng g2, fun _ => slOk_keep hs (fun j hj => by rw [tyB_set]; exact hj)⟩
    · rw [List.getElem_set_ne (fun z => e z.symm)]
      exact ⟨(h.ok k hk').1, readI_no (h.ok k hk').2.1 h.ng g2, fun q => slOk_keep ((h.ok k hk').2.2 (by omega)) (fun j hj => by rw [tyB_set]; exact hj)⟩
theorem allR_below {w w' : World} {L : List (Nat × Nat)} {Ms : List (List (Option (List Int)))} (h : AllR w L Ms) (hb : Below w.heap.size w w') : AllR w' L Ms := ⟨h.1, fun k hk hk' => by obtain ⟨F, z⟩ := h.2 k hk hk'; exact ⟨F, rowT_below z hb⟩⟩
theorem allR_grown {w w' : World} {L : List (Nat × Nat)} {Ms : List (List (Option (List Int)))} {r : Option Nat} (h : AllR w L Ms) (hg : w.grownBy w' r) (hr : ∀ j, r = some j → ∃ T, tyB w j = some T ∧ T ≠ FCT ∧ T ≠ 3) : AllR w' L Ms := ⟨h.1, fun k hk hk' => by obtain ⟨F, z⟩ := h.2 k hk hk'; exact ⟨F, rowT_grown z hg hr⟩⟩
theorem cr_row {w : World} {g n : Nat} {F : List (Bool × Sl)} {M : List (Option (List Int))} (h : CR w g n F M n) : RowT w g n F M := ⟨h.fr, h.ty, h.lf, h.lm, fun k hk => ⟨(h.ok k hk).1, (h.ok k hk).2.1, (h.ok k hk).2.2 (by rw [← h.lf]; exact hk)⟩⟩
theorem blk_new9 {w : World} {c : Array Value} {T : TypeId} {k : Nat} (hk : k = w.heap.size) : Blk (w.alloc (.cells c T)) k c.toList := by rw [hk]; exact blk_new w c T
/-- What stands ahead of a function. -/
structure CP (w0 w : World) (P : PrM) (R : Sum (List (List (Option (List Int)))) (Int × Int × Int)) (j : Nat) (a : Option Addr) (n c : Nat) (L0 : List (Nat × Nat)) : Prop where
  be : Below w0.heap.size w0 w
  x : ∃ L : List (Nat × Nat), n = L.length ∧ OwnR slE SLT w w0.heap.size (.slice a n c) L ∧ ∃ Acc, AllR w L Acc ∧ Acc.length = j ∧ R = joinC Acc (chkFs P (P.fs.drop j) j)
set_option maxRecDepth 100000 in
set_option maxHeartbeats 8000000 in
theorem vcheck_any (p : PrV) (P : PrM) (w : World) (h : ReadP w p P) : Calls Try.prog 39 #[aggP p] w (RetChk w (checkM P)) := by
  have HM := Lib.hid (fun w' (hb : Below w.heap.size w w') => pmay_any p P w' (readP_below h hb))
  obtain ⟨R, hR⟩ : ∃ R, R = checkM P := ⟨_, rfl⟩
  have HRR := Lib.hid hR
  rw [← hR]
  clear hR
  obtain ⟨n1, n2, n3⟩ := fn_len h
  have HR := Lib.hid h
  obtain ⟨t, ht⟩ : ∃ t, t = mayP P := ⟨_, rfl⟩
  rw [← ht] at HM
  have HT := Lib.hid ht
  clear ht
  obtain ⟨u, ⟨ga, gn, gc⟩, m0, ⟨fa, fn, fc⟩⟩ := p
  simp only at n1 n2 n3
  subst n1
  clear h
  unfold aggP Sl.v at *
  simp only at *
  go_enter Try.func39, Try.ntmps39
  go_upto_region 1 with fail
  refine wp_named ?_
  intro W hW
  obtain ⟨q1, q2, q3⟩ := boxes2 w #[.bool u, .slice ga gn gc, .int .i64 m0, .slice fa P.fs.length fc] #[.int .i64 0, .int .i64 0, .int .i64 0] 31 85
  rw [← hW] at q1 q2 q3
  have HBW := Lib.hid q3
  have HK : Hid (∀ w', Below W.heap.size W w' → (w'.cell? ⟨w.heap.size, 0, none⟩ = some (.bool u) ∧ w'.cell? ⟨w.heap.size, 1, none⟩ = some (.slice ga gn gc) ∧ w'.cell? ⟨w.heap.size, 2, none⟩ = some (.int .i64 m0) ∧ w'.cell? ⟨w.heap.size, 3, none⟩ = some (.slice fa P.fs.length fc)) ∧ (w'.cell? ⟨w.heap.size + 1, 0, none⟩ = some (.int .i64 0) ∧ w'.cell? ⟨w.heap.size + 1, 1, none⟩ = some (.int .i64 0) ∧ w'.cell? ⟨w.heap.size + 1, 2, none⟩ = some (.int .i64 0) ∧ (∀ i, w'.frozen? ⟨w.heap.size + 1, i, none⟩ = false)) ∧ w.heap.size < w'.heap.size ∧ w.heap.size + 1 < w'.heap.size) := Lib.hid (fun w' hb => by
    have k1 := blk_below q1 hb; have k2 := blk_below q2 hb
    obtain ⟨y0, y1, y2, y3, _⟩ := blk4 k1
    obtain ⟨z0, z1, z2, zf⟩ := v_blk3 k2
    exact ⟨⟨y0, y1, y2, y3⟩, ⟨z0, z1, z2, zf⟩, k1.1, k2.1⟩)
  have HTY : Hid (tyB W (w.heap.size + 1) = some 85) := Lib.hid (by rw [hW]; exact tyB_new2 (by simp))
  clear hW q1 q2 q3
  obtain ⟨⟨y0, y1, y2, y3⟩, ⟨z0, z1, z2, zf⟩, s0, s1⟩ := HK.out W (Below.refl _ _)
  go_wp2_with fail
  refine (HM.out _ HBW.out).mono ?_
  rintro e w1 ⟨rfl, hb1⟩
  have HB1 := Lib.hid hb1
  clear hb1 y0 y1 y2 y3 z0 z1 z2 zf s0 s1
  obtain ⟨⟨y0, y1, y2, y3⟩, ⟨z0, z1, z2, zf⟩, s0, s1⟩ := HK.out w1 HB1.out
  cases t
  case false =>
    have HRE : Hid (R = .inr (0, 0, 5)) := Lib.hid (by rw [HRR.out]; unfold checkM; rw [if_neg (by rw [← HT.out]; decide)])
    go_wp2_with fail
    exact bodyPost_ret (v := .tuple #[.slice none 0 0, .agg #[.int .i64 0, .int .i64 0, .int .i64 5]]) (by simp [results, Try.results39, go_sem, z0, z1, z2]) rfl (by
      show RetChk _ _ _ _
      rw [HRE.out]
      exact ⟨rfl, b_grown (b_call HBW.out HB1.out) (gb_set3 _ _ _ _ _) (by omega)⟩)
  case true =>
    obtain ⟨g1, g2, g3⟩ := may_good HT.out.symm
    have HG := Lib.hid (And.intro g2 g3)
    obtain ⟨bb, oo, ea, hlt, v, hd, e0, e2⟩ := fn_at0 HR.out g1
    simp only at ea
    subst ea
    have hbw := b_call HBW.out HB1.out
    have hbl : bb < w1.heap.size := Nat.lt_of_lt_of_le hlt hbw.size
    have d0 := ((bcell hbw).1 _ _ hlt).trans e0
    have d2 := ((bcell hbw).1 _ _ hlt).trans e2
    obtain ⟨f1, f2, f3⟩ := int_len hd.p
    rw [f1] at d0
    obtain ⟨f0, hf0⟩ : ∃ f0, f0 = P.fs.getD 0 fzM := ⟨_, rfl⟩
    rw [← hf0] at d0 d2 f2
    have HF0 := Lib.hid hf0
    have n0 : (0 : Int) < P.fs.length := by omega
    have nc : (P.fs.length : Int) ≤ fc := by omega
    have hpl : (f0.ps.length : Int) ≤ v.p.c := by omega
    have HLT := Lib.hid hlt
    have hlen16 : Hid (P.fs.length ≤ 17) := Lib.hid (g2.f)
    have HPOS := Lib.hid g1
    clear e0 e2 hd f1 hf0 hbw g2 g3 hlt
    by_cases hbad : f0.ps ≠ [] ∨ f0.r ≠ 0
    case pos =>
      have HRE : Hid (R = .inr (0, 0, 7)) := Lib.hid (by rw [HRR.out]; unfold checkM; rw [if_pos HT.out.symm, ← HF0.out, if_pos hbad])
      by_cases hp : f0.ps.length = 0
      · have hr : f0.r ≠ 0 := hbad.resolve_left (fun q => q (List.eq_nil_of_length_eq_zero hp))
        have hrb : (f0.r != 0) = true := bne_iff_ne.2 hr
        rw [hp] at d0
        clear hbad hr hp
        go_wp2_with fail
        exact bodyPost_ret (v := .tuple #[.slice none 0 0, .agg #[.int .i64 0, .int .i64 0, .int .i64 7]]) (by simp [results, Try.results39, go_sem, z0, z1, z2]) rfl (by
          show RetChk _ _ _ _
          rw [HRE.out]
          exact ⟨rfl, b_grown (b_call HBW.out HB1.out) (gb_set3 _ _ _ _ _) (by omega)⟩)
      · obtain ⟨n, hn⟩ : ∃ n, f0.ps.length = n + 1 := ⟨f0.ps.length - 1, by omega⟩
        rw [hn] at d0 hpl f2
        have hpp : (0 : Int) < (n : Int) + 1 := by omega
        clear hbad hp hn
        go_wp2_with fail
        exact bodyPost_ret (v := .tuple #[.slice none 0 0, .agg #[.int .i64 0, .int .i64 0, .int .i64 7]]) (by simp [results, Try.results39, go_sem, z0, z1, z2]) rfl (by
          show RetChk _ _ _ _
          rw [HRE.out]
          exact ⟨rfl, b_grown (b_call HBW.out HB1.out) (gb_set3 _ _ _ _ _) (by omega)⟩)
    case neg =>
      have hp : f0.ps = [] := by by_cases q : f0.ps = []; exact q; exact absurd (Or.inl q) hbad
      have hr : f0.r = 0 := by by_cases q : f0.r = 0; exact q; exact absurd (Or.inr q) hbad
      have HRE : Hid (R = joinC [] (chkFs P (P.fs.drop 0) 0)) := Lib.hid (by
        rw [HRR.out]; unfold checkM; rw [if_pos HT.out.symm, ← HF0.out, if_neg hbad, List.drop_zero]
        cases chkFs P P.fs 0 <;> rfl)
      rw [hp] at d0
      rw [hr] at d2
      simp only [List.length_nil] at d0
      clear hbad hp hr f2 hpl
      have HLP : Hid (CP W w1 P R 0 none 0 0 []) := Lib.hid ⟨HB1.out, [], rfl, ownR_nil _ _, ⟨[], ⟨rfl, fun k hk => absurd hk (Nat.not_lt_zero _)⟩, rfl, HRE.out⟩⟩
      have HBX : Hid (Below W.heap.size W w1) := HB1
      go_wp2_with fail
      clear d0 d2 hbl y0 y1 y2 y3 z0 z1 z2 zf s0 s1 HF0
      go_loopw [4, 34] (fun vo i wr => ∃ (j n c : Nat) (a : Option Addr) (L : List (Nat × Nat)), i = .int .i64 j ∧ j ≤ P.fs.length ∧ vo = .slice a n c ∧ Hid (Below W.heap.size W wr) ∧ Hid (CP W wr P R j a n c L)) (fun _ i _ => P.fs.length - (intOf i).toNat)
      case atStart => exact ⟨0, 0, 0, none, [], rfl, Nat.zero_le _, rfl, HBX, HLP⟩
      case round =>
        obtain ⟨j, n, c, a, L9, rfl, hj, rfl, HBR, HCP⟩ := hrel
        obtain ⟨W2, hW2⟩ : ∃ W2, W2 = wr := ⟨_, rfl⟩
        subst hW2
        have j0 : (0 : Int) ≤ j := by omega
        obtain ⟨⟨y0, y1, y2, y3⟩, ⟨z0, z1, z2, zf⟩, s0, s1⟩ := HK.out W2 HBR.out
        by_cases hlt : j < P.fs.length
        · obtain ⟨bb2, oo2, ea2, hlt2, v, hd, e0, e1, e2, e3⟩ := fn_at HR.out hlt
          simp only at ea2
          injection ea2 with ea3
          injection ea3 with ea4 ea5 ea6
          subst ea4 ea5
          clear ea6
          have hbw := b_call HBW.out HBR.out
          have hbl : bb < W2.heap.size := Nat.lt_of_lt_of_le hlt2 hbw.size
          have d0 := ((bcell hbw).1 _ _ hlt2).trans e0
          have d1 := ((bcell hbw).1 _ _ hlt2).trans e1
          have d2 := ((bcell hbw).1 _ _ hlt2).trans e2
          have d3 := ((bcell hbw).1 _ _ hlt2).trans e3
          have HD := Lib.hid hd
          have HDRP : Hid (P.fs.drop j = P.fs[j] :: P.fs.drop (j + 1)) := Lib.hid (List.drop_eq_getElem_cons hlt)
          have HGF := Lib.hid (HG.out.2 _ (List.getElem_mem hlt))
          have HRJ : Hid (P.fs[j].r = P.fs[j].r) := Lib.hid rfl
          have hvr : v.r = P.fs[j].r := hd.r
          rw [← hvr] at d2
          generalize P.fs[j] = f at *
          obtain ⟨⟨pa, pn, pc⟩, ⟨la, ln, lc⟩, r, ⟨ca, cn, cc⟩⟩ := v
          simp only at d0 d1 d2 d3
          have j1 : (j : Int) < P.fs.length := by omega
          have j2 : (j : Int) < fc := by omega
          clear hd e0 e1 e2 e3 hvr hlt2
          go_upto_region 9 with fail
          refine wp_named ?_
          intro W5 hW5
          have BF : Blk W5 W2.heap.size [.slice pa pn pc, .slice la ln lc, .int .i64 r, .slice ca cn cc] := by
            rw [hW5]
            first | exact blk_new _ _ _ | exact blk_set (blk_set (blk_set (blk_set (blk_new W2 _ _) 0 _) 1 _) 2 _) 3 _
          have hb5 : Below W2.heap.size W2 W5 := by
            rw [hW5]
            first | exact b_alloc (Below.refl _ _) _ | exact b_grown (b_alloc (Below.refl _ _) _) (gb_set (gb_set (gb_set (gb_set (gb_refl _ (some W2.heap.size)) _ _ _) _ _ _) _ _ _) _ _ _) (Nat.le_refl _)
          have HB5 := Lib.hid hb5
          obtain ⟨b0, b1, b2, b3, bf⟩ := blk4 BF
          have hbz := BF.1
          clear hW5 hb5 BF d0 d1 d2 d3 hbl y0 y1 y2 y3 z0 z1 z2 zf s0 s1
          obtain ⟨⟨y0, y1, y2, y3⟩, ⟨z0, z1, z2, zf⟩, s0, s1⟩ := HK.out W5 (b_call HBR.out HB5.out)
          have HVF := Lib.hid (vfun_any ⟨u, ⟨ga, gn, gc⟩, m0, ⟨some ⟨bb, oo, none⟩, P.fs.length, fc⟩⟩ P ⟨⟨pa, pn, pc⟩, ⟨la, ln, lc⟩, r, ⟨ca, cn, cc⟩⟩ f W5 (readP_below HR.out (b_call hbw HB5.out)) HG.out.1 (deepF_below HD.out (b_call hbw HB5.out)) HGF.out.1 HGF.out.2.2.1 HGF.out.2.2.2 HGF.out.2.1)
          have HBW5 := Lib.hid (b_call hbw HB5.out)
          clear hbw
          go_wp2_with fail
          refine HVF.out.mono ?_
          intro e w6 h6
          obtain ⟨hr6, hb6⟩ := h6
          have HB6 := Lib.hid (b_call HB5.out hb6)
          clear b0 b1 b2 b3 bf hbz y0 y1 y2 y3 z0 z1 z2 zf s0 s1
          obtain ⟨⟨y0, y1, y2, y3⟩, ⟨z0, z1, z2, zf⟩, s0, s1⟩ := HK.out w6 (b_call HBR.out HB6.out)
          obtain ⟨FR, hFR⟩ : ∃ FR, FR = funM P f := ⟨_, rfl⟩
          rw [← hFR] at hr6
          have HFR := Lib.hid hFR
          clear hFR
          cases FR with
          | inr x =>
            have hr6 : e = .returned (.tuple #[.slice none 0 0, .int .i64 x.1, .int .i64 x.2]) := hr6
            subst hr6
            have hx2 : x.2 ≠ 0 := runV_code _ _ HFR.out.symm
            have hx3 : (x.2 != 0) = true := bne_iff_ne.2 hx2
            have HRX : Hid (R = .inr ((j : Int), x.1, x.2)) := Lib.hid (by
              obtain ⟨L, _, _, Acc, _, _, hRR⟩ := HCP.out.x
              rw [hRR, HDRP.out]
              exact join_bad HFR.out.symm)
            have HBZ := Lib.hid (b_call HBW.out (b_call HBR.out HB6.out))
            clear hx2 hb6
            go_wp2_with fail
            exact bodyPost_ret (v := .tuple #[.slice none 0 0, .agg #[.int .i64 j, .int .i64 x.1, .int .i64 x.2]]) (by simp [results, Try.results39, go_sem, z0, z1, z2]) rfl (by
              show RetChk _ _ _ _
              rw [HRX.out]
              exact ⟨rfl, b_grown HBZ.out (gb_set3 _ _ _ _ _) (by omega)⟩)
          | inl M =>
            obtain ⟨g, F, he, hrow⟩ := hr6
            subst he
            have hcl : f.code.length ≤ 200 := HGF.out.2.2.2
            have n1 : (f.code.length : Int) ≤ 200 := by omega
            have HCR : Hid (CR w6 g f.code.length F M 0) := Lib.hid ⟨hrow.fr, hrow.ty, hrow.ng, hrow.lf, by rw [← hrow.ok.1]; exact hrow.lf, fun k hk => ⟨(hrow.ok.2 k hk).1, (hrow.ok.2 k hk).2, fun q => absurd q (Nat.not_lt_zero _)⟩⟩
            have HGL := Lib.hid hrow.lo
            have HML : Hid (∀ k, ((M.getD k none).getD []).length ≤ 16) := Lib.hid (fun k => by
              cases hm : M.getD k none with
              | none => simp
              | some x => exact hrow.sm k x hm)
            obtain ⟨N, hN⟩ : ∃ N, N = f.code.length := ⟨_, rfl⟩
            rw [← hN] at HCR n1
            rw [← hN]
            have HN := Lib.hid hN
            have HGJ : Hid (W2.heap.size ≤ g) := Lib.hid (Nat.le_trans HB5.out.size hrow.lo)
            clear hrow hcl hb6 hN HVF y0 y1 y2 y3 z0 z1 z2 zf s0 s1
            go_wp2_with fail
            go_loopw [54] (fun i w7 => ∃ (i9 : Nat) (F' : List (Bool × Sl)), i = .int .i64 i9 ∧ i9 ≤ N ∧ Hid (Below W2.heap.size W2 w7) ∧ Hid (CR w7 g N F' M i9)) (fun i _ => N - (intOf i).toNat)
            case atStart => exact ⟨0, F, rfl, Nat.zero_le _, HB6, HCR⟩
            case round =>
              obtain ⟨i9, F', rfl, hi9, HB7, HCR7⟩ := hrel
              have i0 : (0 : Int) ≤ i9 := by omega
              by_cases hi : i9 < N
              · have i1 : (i9 : Int) < N := by omega
                have hFi : i9 < F'.length := by rw [HCR7.out.lf]; exact hi
                have f1 := (fact_at HCR7.out.fr hFi).2
                have hgz := HCR7.out.fr.1
                have hgf := HCR7.out.fr.2.2
                obtain ⟨q1, q2, q3⟩ := HCR7.out.ok i9 hFi
                clear q1 q3
                obtain ⟨KD, hKD⟩ : ∃ KD, KD = (M.getD i9 none).getD [] := ⟨_, rfl⟩
                have hk16 : KD.length ≤ 16 := by rw [hKD]; exact HML.out i9
                rw [← hKD] at q2
                obtain ⟨da, dc, edc, hrd, _, _⟩ := readI_row q2
                have edc2 : Value.slice F'[i9].2.a F'[i9].2.n F'[i9].2.c = .slice da KD.length dc := edc
                replace f1 := f1.trans (congrArg some edc2)
                have HIC := Lib.hid (iclone_any hrd (by omega))
                have HKD := Lib.hid hKD
                have HFI := Lib.hid hFi
                clear hrd edc edc2 hKD
                go_wp2_with fail
                refine HIC.out.mono ?_
                rintro e w8 ⟨a5, k5, rfl, hr8, hs8, hb8⟩
                have HCR8 := Lib.hid (cr_set (cr_below HCR7.out hb8) HFI.out (by rw [← HKD.out]; exact hr8) hs8)
                have HB8 := Lib.hid (b_grown (b_call HB7.out hb8) (gb_set (gb_refl w8 (some g)) (i9 * 2 + 1) none (.slice a5 KD.length k5)) HGJ.out)
                have hgz8 := (cr_below HCR7.out hb8).fr.1
                have hgf8 := (cr_below HCR7.out hb8).fr.2.2
                have f8 := (fact_at (cr_below HCR7.out hb8).fr HFI.out).2
                clear hr8 hs8 hb8 f1 hgz hgf HIC
                go_wp2_with fail
                go_roundw
                case rel => exact ⟨i9 + 1, _, by first | rfl | go_num, by omega, HB8, HCR8⟩
                case measure => simp [intOf]; omega
              · have i1 : ¬ ((i9 : Int) < N) := by omega
                have ei : i9 = N := by omega
                subst ei
                obtain ⟨L, hnl, hown, Acc, hAR, hAl, hRR⟩ := HCP.out.x
                subst hnl
                have hl17 : (L.length : Int) ≤ 17 := by have := hlen16.out; have := hAR.1; omega
                have HOWN := Lib.hid (ownR_below hown HB7.out)
                have HAR := Lib.hid (allR_below hAR HB7.out)
                have HAL := Lib.hid hAl
                have HRX : Hid (R = joinC (Acc ++ [M]) (chkFs P (P.fs.drop (j + 1)) (j + 1))) := Lib.hid (by rw [hRR, HDRP.out]; exact join_step HFR.out.symm)
                have HBZ := Lib.hid (b_call HCP.out.be HB7.out)
                have HROW := Lib.hid (cr_row HCR7.out)
                have hwz := HBZ.out.size
                clear hown hAR hAl hRR
                go_wp2_with (at_builtin; refine append1 (c := slE) rowSl (by rfl) _ _ (by rfl) (by rfl) (v := .slice a L.length c) (L := L) (B := W.heap.size) (ownR_alloc HOWN.out _) (g, i9) _ 1 (by rfl) (blk_new9 rfl) ?c1 ?c2 ?c3 ?_; (case c1 => (omega)); (case c2 => (unfold maxLen; omega)); (case c3 => (simp; omega)); intro g9 cap9 w9 ho9 hg9 hor9 hl9; have HO9 := Lib.hid ho9; have HG9 := Lib.hid hg9; clear ho9 hg9 hor9 hl9)
                go_roundw
                case rel =>
                  have hal : Below wr.heap.size wr wr := Below.refl _ _
                  have hty : ∀ j, (Value.slice a L.length c).ownBlock = some j → ∃ T, tyB _ j = some T ∧ T ≠ FCT ∧ T ≠ 3 := fun j hj => ⟨SLT, ownR_ty (ownR_alloc HOWN.out (.cells #[.slice (some ⟨g, 0, none⟩) i9 i9] SLT)) j hj, by decide, by decide⟩
                  have hBn : Below W.heap.size W w9 := b_ownR (b_alloc HBZ.out _) (ownR_alloc HOWN.out _) HG9.out
                  refine ⟨j + 1, L.length + 1, cap9, some ⟨g9, 0, none⟩, [], by first | rfl | go_num, by omega, rfl, Lib.hid hBn, Lib.hid ⟨hBn, L ++ [(g, i9)], by simp, HO9.out, Acc ++ [M], ?_, by simp; exact HAL.out, HRX.out⟩⟩
                  exact allR_snoc (allR_grown (allR_below HAR.out (b_alloc (Below.refl _ _) _)) HG9.out hty) ⟨_, rowT_grown (rowT_below HROW.out (b_alloc (Below.refl _ _) _)) HG9.out hty⟩
                case measure => simp [intOf]; omega
        · have j1 : ¬ ((j : Int) < P.fs.length) := by omega
          obtain ⟨L, hnl, hown, Acc, hAR, hAl, hRR⟩ := HCP.out.x
          subst hnl
          have HRX : Hid (R = .inl Acc) := Lib.hid (by rw [hRR, List.drop_of_length_le (by omega)]; show Sum.inl (Acc ++ []) = _; rw [List.append_nil])
          have hz := hown
          have HOWN := Lib.hid hown
          have HAR := Lib.hid hAR
          clear hown hAR hAl hRR hz
          go_wp2_with fail
          exact bodyPost_ret (v := .tuple #[.slice a L.length c, .agg #[.int .i64 0, .int .i64 0, .int .i64 0]]) (by simp [results, Try.results39, go_sem, z0, z1, z2]) rfl (by
            show RetChk _ _ _ _
            rw [HRX.out]
            have g3 := gb_set3 W2 (w.heap.size + 1) (.int .i64 0) (.int .i64 0) (.int .i64 0)
            have hTX := tyB_call HTY.out HBR.out
            have hne : (Value.slice a L.length c).ownBlock ≠ some (w.heap.size + 1) := fun e => by
              have := ownR_ty HOWN.out _ e
              rw [hTX] at this; injection this with this; exact absurd this (by decide)
            refine ⟨⟨a, c, L, rfl, readR_grown (ownR_read HOWN.out) g3 (Or.inr hne), allR_grown HAR.out g3 (fun j hj => ?_)⟩, b_grown (b_call HBW.out HBR.out) g3 (by omega)⟩
            injection hj with hj
            subst hj
            exact ⟨_, hTX, by decide, by decide⟩)
def oneP (code : List In4) : PrM := ⟨false, [], 0, [⟨[], [], 0, code⟩]⟩
theorem row_lit (w : World) (arr : Array Value) (code : List In4) (h : arr.toList = inE.row code) {k : Nat} (hk : k = w.heap.size) (hl : code.length ≤ 10) : ReadR inE (w.alloc (.cells arr 123)) (.slice (some ⟨k, 0, none⟩) code.length code.length) code := by
  subst hk
  have q := blk_new w arr 123
  rw [h] at q
  exact readR_blk q (Nat.le_refl _) (by unfold maxLen; omega)
end Go.Proofs.Ytdmidnmciaediaa
