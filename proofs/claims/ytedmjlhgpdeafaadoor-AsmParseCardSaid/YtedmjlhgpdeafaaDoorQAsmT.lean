/- Layer 34: the reader's methods globals, mutexes, function, code. Conditions: those stated. -/
import Derived.Test.YtedmjlhgpdeafaaDoorQAsmS
import Derived.Laws.EntriesVeiled
namespace Go.Proofs.YtedmjlhgpdeafaaDoor
open Go.RowKit
set_option linter.unusedVariables false
set_option linter.unusedSimpArgs false
variable {W0 w : World} {rb : Nat} {fi : Bool} {nx : Value} {P : PrM} {g s : Sl}
def rp (rb : Nat) : Value := .pointer (some ⟨rb, 0, none⟩)
/-- Which method is next. -/
def nxV (rb : Nat) (n : Nat) : Value := if n ≤ 1 then .func (.func 25) #[rp rb] #[] else if n = 2 then .func (.func 55) #[rp rb] #[] else .func (.func 74) #[rp rb] #[]
/-- What a method answers. -/
def ARdEnd (W0 w : World) (rb : Nat) (fi : Bool) (o : Option (PrM × Nat)) (e : Ending) (w' : World) : Prop :=
  e = .returned (.bool o.isSome) ∧ Below W0.heap.size W0 w' ∧ ∀ P' n, o = some (P', n) → KeepE STRT w w' ∧ ∃ g s, ARdAt W0 w' rb fi (nxV rb n) P' g s
theorem awords_at {wv : Value} {a : List UInt8} {r : List (List UInt8)} (h : ReadR strE w wv (a :: r)) : ∃ b o n cap, wv = .slice (some ⟨b, o, none⟩) n cap ∧ n = r.length + 1 ∧ n ≤ cap ∧ cap ≤ 9223372036854775807 ∧ b < w.heap.size ∧ w.cell? ⟨b, o, none⟩ = some (.string ⟨a.toArray⟩) ∧ ∀ j (hj : j < r.length), w.cell? ⟨b, o + (j + 1), none⟩ = some (.string ⟨r[j].toArray⟩) := by
  obtain ⟨b, o, cap, rfl, h1, h2, hb, h4⟩ := readR_pos h (by simp)
  refine ⟨b, o, _, cap, rfl, by simp, h1, cap_le h2, hb, ?_, fun j hj => ?_⟩
  · have q := h4 0 (by simp) 0 (by decide)
    simpa [strE] using q
  · have q := h4 (j + 1) (by simp; omega) 0 (by decide)
    have e : o + ((j + 1) * strE.size + 0) = o + (j + 1) := by show o + ((j + 1) * 1 + 0) = _; omega
    rw [e] at q
    simpa [strE] using q
theorem ard_cells (h : ARdAt W0 w rb fi nx P g s) : w.cell? ⟨rb, 0, none⟩ = some (.bool P.u) ∧ w.cell? ⟨rb, 1, none⟩ = some g.v ∧ w.cell? ⟨rb, 2, none⟩ = some (.int .i64 P.m) ∧ w.cell? ⟨rb, 3, none⟩ = some s.v ∧ w.cell? ⟨rb, 4, none⟩ = some (.bool fi) ∧ w.cell? ⟨rb, 5, none⟩ = some nx ∧ ∀ i, w.frozen? ⟨rb, i, none⟩ = false :=
  ⟨h.hd.2.1 0 (by simp), h.hd.2.1 1 (by simp), h.hd.2.1 2 (by simp), h.hd.2.1 3 (by simp), h.hd.2.1 4 (by simp), h.hd.2.1 5 (by simp), h.hd.2.2⟩
theorem ownI_sl {B : Nat} {a : Option Addr} {n c : Nat} {xs : List Int} (h : OwnI w B (.slice a n c) xs) : slOk w INTT a n := by
  rcases Nat.eq_zero_or_pos xs.length with q | q
  · obtain ⟨_, _, e⟩ := readI_len (ownI_read h)
    injection e with _ e _
    exact Or.inl (by omega)
  · obtain ⟨h1, h2⟩ := h
    rcases h2 with ⟨e, _⟩ | ⟨g, cap, cur, e, _, h4, _⟩
    · injection e with _ e _
      exact Or.inl e
    · injection e with e1 e2 e3
      exact Or.inr ⟨g, e1, by unfold tyB; rw [h4]; rfl⟩
set_option maxRecDepth 100000 in
set_option maxHeartbeats 2000000 in
theorem glob_no (h : ARdAt W0 w rb fi nx P g s) {b o n cap : Nat} {a : List UInt8} (hn : 1 ≤ n) (hnc : n ≤ cap) (hcm : cap ≤ 9223372036854775807) (hb : b < w.heap.size) (c0 : w.cell? ⟨b, o, none⟩ = some (.string ⟨a.toArray⟩))
    (h1 : fi = false ∨ ((n : Int) == 1) = false ∨ (a == [117, 110, 99, 104, 101, 99, 107, 101, 100]) = false) (h2 : ((n : Int) != 2) = true ∨ (a == [103, 108, 111, 98, 97, 108, 115]) = false) : Calls Tryd.prog 25 #[rp rb, .slice (some ⟨b, o, none⟩) n cap] w fun e w' => e = .returned (.bool false) ∧ w = w' := by
  obtain ⟨r0, r1, r2, r3, r4, r5, rf⟩ := ard_cells h
  have rz := h.hd.1
  clear h
  unfold rp
  have hn0 : (0 : Int) < n := by omega
  rcases h1 with rfl | h1 | h1 <;> rcases h2 with h2 | h2
  all_goals
    go_enter Tryd.func25, Tryd.ntmps25
    go_wp2_with fail
  all_goals (go_ret; exact ⟨rfl, rfl⟩)
set_option maxRecDepth 100000 in
set_option maxHeartbeats 2000000 in
theorem glob_unch (h : ARdAt W0 w rb true nx P g s) (hnx : nx = nxV rb 1) {b o n cap : Nat} {a : List UInt8} (hn : ((n : Int) == 1) = true) (hnc : n ≤ cap) (hcm : cap ≤ 9223372036854775807) (hb : b < w.heap.size) (c0 : w.cell? ⟨b, o, none⟩ = some (.string ⟨a.toArray⟩))
    (ha : (a == [117, 110, 99, 104, 101, 99, 107, 101, 100]) = true) : Calls Tryd.prog 25 #[rp rb, .slice (some ⟨b, o, none⟩) n cap] w (ARdEnd W0 w rb true (some ({ P with u := true }, 1))) := by
  obtain ⟨r0, r1, r2, r3, r4, r5, rf⟩ := ard_cells h
  have rz := h.hd.1
  have H := Lib.hid h
  have HNX := Lib.hid hnx
  have hn1 : n = 1 := by have : (n : Int) = 1 := by simpa using hn
                         omega
  have hnn : 0 < n := by omega
  clear h hnx hn1
  unfold rp
  go_enter Tryd.func25, Tryd.ntmps25
  go_wp2_with fail
  refine post_named ?_
  intro wF hwF
  have HG : Hid (w.grownBy wF (some rb)) := Lib.hid (by rw [hwF]; exact gb_set (gb_refl w (some rb)) 0 none _)
  have HT := ard_turn (P' := { P with u := true }) (g' := g) (fi' := true) (nx' := nx) H.out HG.out (by rw [hwF]; exact blk_set H.out.hd 0 _) H.out.gl H.out.go rfl (by rw [hwF, tyB_set]; exact H.out.ty)
  clear hwF
  go_ret
  refine ⟨rfl, HT.1.be, fun P' n e => ?_⟩
  injection e with e
  injection e with e1 e2
  subst e1 e2
  exact ⟨HT.2, g, s, by rw [← HNX.out]; exact HT.1⟩
set_option maxRecDepth 100000 in
set_option maxHeartbeats 2000000 in
theorem glob_yes (h : ARdAt W0 w rb fi nx P g s) {b o n cap : Nat} {a x : List UInt8} (hn : ((n : Int) != 2) = false) (hnc : n ≤ cap) (hcm : cap ≤ 9223372036854775807) (hb : b < w.heap.size) (c0 : w.cell? ⟨b, o, none⟩ = some (.string ⟨a.toArray⟩)) (c1 : w.cell? ⟨b, o + 1, none⟩ = some (.string ⟨x.toArray⟩))
    (ha : (a == [103, 108, 111, 98, 97, 108, 115]) = true) (hx0 : x ≠ []) (hx : x.length ≤ 1000000) : Calls Tryd.prog 25 #[rp rb, .slice (some ⟨b, o, none⟩) n cap] w (ARdEnd W0 w rb fi ((listL x).bind fun l => some ({ P with gl := l }, 2))) := by
  obtain ⟨r0, r1, r2, r3, r4, r5, rf⟩ := ard_cells h
  have rz := h.hd.1
  have H := Lib.hid h
  have hn2 : n = 2 := by have : ((n : Int)) = 2 := by simpa using hn
                         omega
  have hn1 : ((n : Int) == 1) = false := beq_false_of_ne (by omega)
  have hnn : 1 < n := by omega
  have HL := Lib.hid (fun w => alist_any x hx0 w hx)
  unfold strV at HL
  have HLO := Lib.hid h.lo
  clear h hn2
  unfold rp
  cases fi
  · skip
    go_enter Tryd.func25, Tryd.ntmps25
    go_wp2_with fail
    refine (HL.out _).mono ?_
    rintro e w1 ⟨⟨va, vn, vc, rfl, hv⟩, hb1⟩
    have H1 := Lib.hid (ard_below H.out hb1)
    have HB1 := Lib.hid hb1
    have HV := Lib.hid hv
    clear hv hb1 r0 r1 r2 r3 r4 r5 rf rz
    obtain ⟨r0, r1, r2, r3, r4, r5, rf⟩ := ard_cells H1.out
    have rz := H1.out.hd.1
    go_wp2_with fail
    refine post_named ?_
    intro wF hwF
    have HG : Hid (w1.grownBy wF (some rb)) := Lib.hid (by rw [hwF]; exact gb_set (gb_set (gb_refl w1 (some rb)) 1 none _) 5 none _)
    have HBL : Hid (Blk wF rb [.bool P.u, .slice va vn vc, .int .i64 P.m, s.v, .bool false, nxV rb 2]) := Lib.hid (by rw [hwF]; exact blk_set (blk_set H1.out.hd 1 _) 5 _)
    have HTY : Hid (tyB wF rb = some ARDT) := Lib.hid (by rw [hwF, tyB_set, tyB_set]; exact H1.out.ty)
    have HBW : Hid (Below W0.heap.size W0 wF) := Lib.hid (b_grown H1.out.be HG.out HLO.out)
    clear hwF
    go_ret
    refine ⟨?_, HBW.out, fun P' n e => ?_⟩
    · cases listL x <;> rfl
    · cases hl : listL x with
      | none => rw [hl] at e; cases e
      | some ks =>
        rw [hl] at e
        injection e with e
        injection e with e1 e2
        subst e1 e2
        have ho := HV.out ks hl
        have hr := ownI_read ho
        have HT := ard_turn (P' := { P with gl := ks }) (g' := ⟨va, vn, vc⟩) (fi' := false) (nx' := nxV rb 2) H1.out HG.out HBL.out hr (ownI_sl ho) rfl HTY.out
        exact ⟨keepE_trans (keepE_below HB1.out) HT.2, ⟨va, vn, vc⟩, s, HT.1⟩
  · skip
    go_enter Tryd.func25, Tryd.ntmps25
    go_wp2_with fail
    refine (HL.out _).mono ?_
    rintro e w1 ⟨⟨va, vn, vc, rfl, hv⟩, hb1⟩
    have H1 := Lib.hid (ard_below H.out hb1)
    have HB1 := Lib.hid hb1
    have HV := Lib.hid hv
    clear hv hb1 r0 r1 r2 r3 r4 r5 rf rz
    obtain ⟨r0, r1, r2, r3, r4, r5, rf⟩ := ard_cells H1.out
    have rz := H1.out.hd.1
    go_wp2_with fail
    refine post_named ?_
    intro wF hwF
    have HG : Hid (w1.grownBy wF (some rb)) := Lib.hid (by rw [hwF]; exact gb_set (gb_set (gb_refl w1 (some rb)) 1 none _) 5 none _)
    have HBL : Hid (Blk wF rb [.bool P.u, .slice va vn vc, .int .i64 P.m, s.v, .bool true, nxV rb 2]) := Lib.hid (by rw [hwF]; exact blk_set (blk_set H1.out.hd 1 _) 5 _)
    have HTY : Hid (tyB wF rb = some ARDT) := Lib.hid (by rw [hwF, tyB_set, tyB_set]; exact H1.out.ty)
    have HBW : Hid (Below W0.heap.size W0 wF) := Lib.hid (b_grown H1.out.be HG.out HLO.out)
    clear hwF
    go_ret
    refine ⟨?_, HBW.out, fun P' n e => ?_⟩
    · cases listL x <;> rfl
    · cases hl : listL x with
      | none => rw [hl] at e; cases e
      | some ks =>
        rw [hl] at e
        injection e with e
        injection e with e1 e2
        subst e1 e2
        have ho := HV.out ks hl
        have hr := ownI_read ho
        have HT := ard_turn (P' := { P with gl := ks }) (g' := ⟨va, vn, vc⟩) (fi' := true) (nx' := nxV rb 2) H1.out HG.out HBL.out hr (ownI_sl ho) rfl HTY.out
        exact ⟨keepE_trans (keepE_below HB1.out) HT.2, ⟨va, vn, vc⟩, s, HT.1⟩
set_option maxRecDepth 100000 in
set_option maxHeartbeats 2000000 in
theorem mut_no (h : ARdAt W0 w rb fi nx P g s) {b o n cap : Nat} {a : List UInt8} (hn : 1 ≤ n) (hnc : n ≤ cap) (hcm : cap ≤ 9223372036854775807) (hb : b < w.heap.size) (c0 : w.cell? ⟨b, o, none⟩ = some (.string ⟨a.toArray⟩))
    (h2 : ((n : Int) != 2) = true ∨ (a == [109, 117, 116, 101, 120, 101, 115]) = false) : Calls Tryd.prog 55 #[rp rb, .slice (some ⟨b, o, none⟩) n cap] w fun e w' => e = .returned (.bool false) ∧ w = w' := by
  obtain ⟨r0, r1, r2, r3, r4, r5, rf⟩ := ard_cells h
  have rz := h.hd.1
  clear h
  unfold rp
  have hn0 : (0 : Int) < n := by omega
  rcases h2 with h2 | h2
  all_goals
    go_enter Tryd.func55, Tryd.ntmps55
    go_wp2_with fail
  all_goals (go_ret; exact ⟨rfl, rfl⟩)
set_option maxRecDepth 100000 in
set_option maxHeartbeats 2000000 in
theorem mut_yes (h : ARdAt W0 w rb fi nx P g s) {b o n cap : Nat} {a x : List UInt8} (hn : ((n : Int) != 2) = false) (hnc : n ≤ cap) (hcm : cap ≤ 9223372036854775807) (hb : b < w.heap.size) (c0 : w.cell? ⟨b, o, none⟩ = some (.string ⟨a.toArray⟩)) (c1 : w.cell? ⟨b, o + 1, none⟩ = some (.string ⟨x.toArray⟩))
    (ha : (a == [109, 117, 116, 101, 120, 101, 115]) = true) (hx : x.length ≤ 1000000) : Calls Tryd.prog 55 #[rp rb, .slice (some ⟨b, o, none⟩) n cap] w (ARdEnd W0 w rb fi ((valL x).bind fun m => some ({ P with m := (m : Int) }, 3))) := by
  obtain ⟨r0, r1, r2, r3, r4, r5, rf⟩ := ard_cells h
  have rz := h.hd.1
  have H := Lib.hid h
  have hn2 : n = 2 := by have : ((n : Int)) = 2 := by simpa using hn
                         omega
  have hnn : 1 < n := by omega
  have HL := Lib.hid (fun w => asmall_any x w hx)
  unfold strV at HL
  have HLO := Lib.hid h.lo
  clear h hn2
  unfold rp
  go_enter Tryd.func55, Tryd.ntmps55
  go_wp2_with fail
  refine (HL.out _).mono ?_
  rintro e w1 ⟨⟨vm, rfl, hv⟩, rfl⟩
  have HV := Lib.hid hv
  clear hv
  go_wp2_with fail
  refine post_named ?_
  intro wF hwF
  have HG : Hid (w.grownBy wF (some rb)) := Lib.hid (by rw [hwF]; exact gb_set (gb_set (gb_refl w (some rb)) 2 none _) 5 none _)
  have HBL : Hid (Blk wF rb [.bool P.u, g.v, .int .i64 vm, s.v, .bool fi, nxV rb 3]) := Lib.hid (by rw [hwF]; exact blk_set (blk_set H.out.hd 2 _) 5 _)
  have HTY : Hid (tyB wF rb = some ARDT) := Lib.hid (by rw [hwF, tyB_set, tyB_set]; exact H.out.ty)
  have HBW : Hid (Below W0.heap.size W0 wF) := Lib.hid (b_grown H.out.be HG.out HLO.out)
  clear hwF
  go_ret
  refine ⟨?_, HBW.out, fun P' n e => ?_⟩
  · cases valL x <;> rfl
  · cases hl : valL x with
    | none => rw [hl] at e; cases e
    | some m =>
      rw [hl] at e
      injection e with e
      injection e with e1 e2
      subst e1 e2
      have ho := HV.out m hl
      subst ho
      have HT := ard_turn (P' := { P with m := (m : Int) }) (g' := g) (fi' := fi) (nx' := nxV rb 3) H.out HG.out HBL.out H.out.gl H.out.go rfl HTY.out
      exact ⟨HT.2, g, s, HT.1⟩
theorem rowAF : IsRow Tryd.prog 31 63 4 80 (.agg #[.slice none 0 0, .slice none 0 0, .int .i64 0, .slice none 0 0]) := ⟨Tryd.underlying31, by kernel_rfl, by rfl⟩
theorem awpE_named {P : Program} {ops : Array Oper} {Q : Exit → Act → World → Prop} {md : Region.Mode} {S : World → Prop} {T : Nat} {fuel : Nat} {listed : Array Bool} {a : Act} {w : World} (h : ∀ w1, w1 = w → wpAnyE P md ops Q S T fuel listed a w1) : wpAnyE P md ops Q S T fuel listed a w := h w rfl
theorem blk_same {w w' : World} {g : Nat} {vs : List Value} (h : Blk w g vs) (hs : w'.heap[g]? = w.heap[g]?) (hz : w.heap.size ≤ w'.heap.size) : Blk w' g vs :=
  ⟨Nat.lt_of_lt_of_le h.1 hz, fun i hi => by rw [← h.2.1 i hi]; unfold World.cell?; simp only [hs], fun i => by rw [← h.2.2 i]; unfold World.frozen?; simp only [hs]⟩
theorem ard_other {w' : World} (h : ARdAt W0 w rb fi nx P g s) (hz : w.heap.size ≤ w'.heap.size) (hk : ∀ k, (tyB w k = some ARDT ∨ tyB w k = some INTT) → w'.heap[k]? = w.heap[k]?) (hbe : Below W0.heap.size W0 w') {fs' : List FnM} (hf : FnsAt W0.heap.size w' s fs') : ARdAt W0 w' rb fi nx { P with fs := fs' } g s := by
  have hI : ∀ k, tyB w k = some INTT → w'.heap[k]? = w.heap[k]? := fun k q => hk k (Or.inr q)
  have hIt : ∀ k, tyB w k = some INTT → tyB w' k = some INTT := fun k q => by rw [tyB_block (hI k q)]; exact q
  exact ⟨blk_same h.hd (hk rb (Or.inl h.ty)) hz, by rw [tyB_block (hk rb (Or.inl h.ty))]; exact h.ty, readR_I (readR_apart (readI_R h.gl) h.go hz hI), slOk_keep h.go hIt, hf, hbe, h.lo⟩
theorem fn_last {L0 : List FnV} {v : FnV} {gb : Nat} (h : Blk w gb (fnE.row (L0 ++ [v]))) : w.cell? ⟨gb, L0.length * 4 + 3, none⟩ = some v.c.v := by
  have hl : L0.length * 4 + 3 < (fnE.row (L0 ++ [v])).length := by rw [row_length]; show _ < (L0 ++ [v]).length * 4; simp; omega
  have q := row_at fnE (L0 ++ [v]) L0.length (by simp) 3 (by decide)
  have e : L0.length * fnE.size + 3 = L0.length * 4 + 3 := rfl
  rw [e] at q
  rw [h.2.1 _ hl, ← List.getElem?_eq_getElem hl, q]
  simp [fnE]
set_option maxRecDepth 100000 in
set_option maxHeartbeats 2000000 in
theorem cod_func (h : ARdAt W0 w rb fi nx P g s) {b o n cap : Nat} {a : List UInt8} (hn : 1 ≤ n) (hnc : n ≤ cap) (hcm : cap ≤ 9223372036854775807) (hb : b < w.heap.size) (c0 : w.cell? ⟨b, o, none⟩ = some (.string ⟨a.toArray⟩)) (ha : (a == [102, 117, 110, 99]) = true)
    {R : Ending → World → Prop} (hR : ∀ e w', R e w' → ∃ r : Bool, e = .returned (.bool r)) (hF : Calls Tryd.prog 89 #[rp rb, .slice (some ⟨b, o, none⟩) n cap] w R) : Calls Tryd.prog 74 #[rp rb, .slice (some ⟨b, o, none⟩) n cap] w R := by
  have HF := Lib.hid hF
  have HR := Lib.hid hR
  have hn0 : 0 < n := by omega
  clear h hF hR
  unfold rp at *
  go_enter Tryd.func74, Tryd.ntmps74
  go_wp2_with fail
  refine HF.out.mono ?_
  intro e w1 h1
  obtain ⟨r, rfl⟩ := HR.out _ _ h1
  have H1 := Lib.hid h1
  clear h1
  go_wp2_with fail
  exact H1.out
set_option maxRecDepth 100000 in
set_option maxHeartbeats 2000000 in
theorem fun_len (h : ARdAt W0 w rb fi nx P g s) {b o n cap : Nat} (hn : ((n : Int) != 4) = true) : Calls Tryd.prog 89 #[rp rb, .slice (some ⟨b, o, none⟩) n cap] w fun e w' => e = .returned (.bool false) ∧ w = w' := by
  clear h
  unfold rp
  go_enter Tryd.func89, Tryd.ntmps89
  go_wp2_with fail
  go_ret
  exact ⟨rfl, rfl⟩
set_option maxRecDepth 100000 in
set_option maxHeartbeats 2000000 in
theorem cod_none (h : ARdAt W0 w rb fi nx P g s) {b o n cap : Nat} {a : List UInt8} {r : List (List UInt8)} (hn : 1 ≤ n) (hnc : n ≤ cap) (hcm : cap ≤ 9223372036854775807) (hb : b < w.heap.size) (c0 : w.cell? ⟨b, o, none⟩ = some (.string ⟨a.toArray⟩)) (ha : (a == [102, 117, 110, 99]) = false)
    (hO : Calls Tryd.prog 90 #[.slice (some ⟨b, o, none⟩) n cap] w fun e w' => OneEnd a r e ∧ Below w.heap.size w w') (hbad : instrL a r = none ∨ P.fs = []) : Calls Tryd.prog 74 #[rp rb, .slice (some ⟨b, o, none⟩) n cap] w fun e w' => e = .returned (.bool false) ∧ Below w.heap.size w w' := by
  have H := Lib.hid h
  have HO := Lib.hid hO
  have HBAD := Lib.hid hbad
  have hn0 : 0 < n := by omega
  clear h hO hbad
  unfold rp at *
  go_enter Tryd.func74, Tryd.ntmps74
  go_wp2_with fail
  refine HO.out.mono ?_
  rintro e w1 ⟨⟨vo, vx, va, vb, rfl, hi⟩, hb1⟩
  have HI := Lib.hid hi
  clear hi
  go_upto_region 4 with fail
  refine wp_named ?_
  intro W2 hW2
  have HB2 : Hid (Below w.heap.size w W2) := Lib.hid (by rw [hW2]; exact b_alloc hb1 _)
  clear hW2 hb1
  have H2 := Lib.hid (ard_below H.out HB2.out)
  obtain ⟨r0, r1, r2, r3, r4, r5, rf⟩ := ard_cells H2.out
  have rz := H2.out.hd.1
  obtain ⟨sa, sn, sc⟩ := s
  have HSN : Hid (sn = P.fs.length) := Lib.hid (by
    obtain ⟨L, h1, h2⟩ := H2.out.fs
    obtain ⟨_, _, e⟩ := readR_len (ownR_read h1)
    have e := e.1
    injection e with _ e _
    have e : sn = L.length := e
    rw [e, lastO_len h2])
  unfold Sl.v at *
  rcases HBAD.out with hq | hq
  · have hf : (instrL a r).isSome = false := by rw [hq]; rfl
    go_wp2_with fail
    go_ret
    exact ⟨rfl, HB2.out⟩
  · have hz : ((sn : Int) == 0) = true := by rw [HSN.out, hq]; rfl
    cases hf : (instrL a r).isSome
    · go_wp2_with fail
      go_ret
      exact ⟨rfl, HB2.out⟩
    · go_wp2_with fail
      go_ret
      exact ⟨rfl, HB2.out⟩
set_option maxRecDepth 100000 in
set_option maxHeartbeats 2000000 in
theorem cod_some (h : ARdAt W0 w rb fi (nxV rb 3) P g s) {b o n cap : Nat} {a : List UInt8} {r : List (List UInt8)} (hn : 1 ≤ n) (hnc : n ≤ cap) (hcm : cap ≤ 9223372036854775807) (hb : b < w.heap.size) (c0 : w.cell? ⟨b, o, none⟩ = some (.string ⟨a.toArray⟩)) (ha : (a == [102, 117, 110, 99]) = false)
    (hO : Calls Tryd.prog 90 #[.slice (some ⟨b, o, none⟩) n cap] w fun e w' => OneEnd a r e ∧ Below w.heap.size w w') {i : In4} (hi : instrL a r = some i) (hfs : P.fs ≠ []) (hsm : ∀ f ∈ P.fs, f.code.length ≤ 1000000) : Calls Tryd.prog 74 #[rp rb, .slice (some ⟨b, o, none⟩) n cap] w (ARdEnd W0 w rb fi (some ({ P with fs := addLast P.fs i }, 3))) := by
  have H := Lib.hid h
  have HO := Lib.hid hO
  have HI0 := Lib.hid hi
  have hn0 : 0 < n := by omega
  have HSM := Lib.hid hsm
  obtain ⟨L, h1, h2⟩ := h.fs
  rcases h2 with ⟨rfl, h2⟩ | ⟨L0, v, fs0, m, Bl, rfl, hf0, h3, h4, h5⟩
  · exact absurd h2 hfs
  obtain ⟨gb, gc, hgf, hg1, hg2, hg3, hg4, hg5⟩ := ownR_form h1 (by simp)
  have HGF := Lib.hid hgf
  have HOWN := Lib.hid h1
  have HB3 := Lib.hid h3
  have HALL := Lib.hid h4
  have HLF := Lib.hid h5
  have HF0 := Lib.hid hf0
  have HGC := Lib.hid (And.intro hg3 (cap_le hg4))
  have HG1 := Lib.hid hg1
  obtain ⟨N, hN⟩ : ∃ N, N = (L0 ++ [v]).length := ⟨_, rfl⟩
  have hN1 : N - 1 = L0.length := by rw [hN]; simp
  have hN0 : 1 ≤ N := by rw [hN]; simp
  obtain ⟨sa, sn, sc⟩ := s
  have hgf : Value.slice sa sn sc = .slice (some ⟨gb, 0, none⟩) (L0 ++ [v]).length gc := hgf
  injection hgf with e1 e2 e3
  subst e1 e2 e3
  have hNc : N ≤ sc := by rw [hN]; exact hg3
  have hccc := HGC.out.2
  clear h hO hi hfs hsm h1 h3 h4 h5 hf0 hg1 hg3 hg4 hg5
  obtain ⟨⟨pa, pn, pc⟩, ⟨xa, xn, xc⟩, vr, ⟨ca, cn, cc⟩⟩ := v
  unfold rp at *
  go_enter Tryd.func74, Tryd.ntmps74
  go_wp2_with fail
  refine HO.out.mono ?_
  rintro e w1 ⟨⟨vo, vx, va, vb, rfl, hi⟩, hb1⟩
  have HI := Lib.hid (hi _ HI0.out)
  have hok : (instrL a r).isSome = true := by rw [HI0.out]; rfl
  clear hi
  go_upto_region 4 with fail
  refine wp_named ?_
  intro W2 hW2
  have HSZ : Hid (w.heap.size ≤ w1.heap.size) := Lib.hid hb1.size
  have HB2 : Hid (Below w.heap.size w W2) := Lib.hid (by rw [hW2]; exact b_alloc hb1 _)
  have HX2 : Hid (Blk W2 w1.heap.size [.int .i64 vo, .int .u64 vx, .int .i64 va, .int .i64 vb]) := Lib.hid (by rw [hW2]; exact blk_new _ _ _)
  clear hW2 hb1
  have H2 := Lib.hid (ard_below H.out HB2.out)
  obtain ⟨r0, r1, r2, r3, r4, r5, rf⟩ := ard_cells H2.out
  have rz := H2.out.hd.1
  have HOW2 := Lib.hid (ownR_below HOWN.out HB2.out)
  replace r3 : W2.cell? ⟨rb, 3, none⟩ = some (.slice (some ⟨gb, 0, none⟩) N sc) := by rw [hN]; exact r3
  have hnz : ((N : Int) == 0) = false := beq_false_of_ne (by omega)
  have HN := Lib.hid hN
  clear hN hgf
  go_upto_region 8 with fail
  have HS : Hid (∀ w', Below W2.heap.size W2 w' → (w'.cell? ⟨gb, L0.length * 4 + 3, none⟩ = some (.slice ca cn cc) ∧ w'.cell? ⟨w1.heap.size, 0, none⟩ = some (.int .i64 vo) ∧ w'.cell? ⟨w1.heap.size, 1, none⟩ = some (.int .u64 vx) ∧ w'.cell? ⟨w1.heap.size, 2, none⟩ = some (.int .i64 va) ∧ w'.cell? ⟨w1.heap.size, 3, none⟩ = some (.int .i64 vb))) := Lib.hid (fun w' hb => by
    obtain ⟨z0, z1, z2, z3, _⟩ := blk4 (blk_below HX2.out hb)
    refine ⟨?_, z0, z1, z2, z3⟩
    obtain ⟨gb', gc', e', _, _, _, _, k5⟩ := ownR_form (ownR_below HOW2.out hb) (by simp)
    have e2 : gb' = gb := by injection e' with e' _ _; injection e' with e'; injection e' with e'; exact e'.symm
    subst e2
    exact fn_last k5)
  clear r0 r1 r2 r3 r4 r5 rf rz
  refine wp_region_E (S := fun w' => (w'.cell? ⟨gb, L0.length * 4 + 3, none⟩ = some (.slice ca cn cc) ∧ w'.cell? ⟨w1.heap.size, 0, none⟩ = some (.int .i64 vo) ∧ w'.cell? ⟨w1.heap.size, 1, none⟩ = some (.int .u64 vx) ∧ w'.cell? ⟨w1.heap.size, 2, none⟩ = some (.int .i64 va) ∧ w'.cell? ⟨w1.heap.size, 3, none⟩ = some (.int .i64 vb))) 10 (by kernel_rfl) (HS.out _ (b_drew (Below.refl _ _))) (fun hHeld => ?_)
  (refine wpAnyE_take (n := 12) (i := 0) (v := ?_) rfl (by kernel_rfl) (by kernel_rfl) (by kernel_rfl) (by kernel_rfl) (by kernel_rfl) (fun _ _ _ h => h) (Or.inl ⟨by rfl, ?_⟩) hHeld ?_; rotate_left; (focus (intro w hSw; (try dsimp only at hSw); go_simp; try (with_reducible rfl))); (try simp only [Act.put, List.getElem_toArray, List.getElem_cons_succ, List.getElem_cons_zero, List.setIfInBounds_toArray, List.set_cons_zero, List.set_cons_succ]))
  (refine wpAnyE_take (n := 12) (i := 1) (v := ?_) rfl (by kernel_rfl) (by kernel_rfl) (by kernel_rfl) (by kernel_rfl) (by kernel_rfl) (fun _ _ _ h => h) (Or.inl ⟨by rfl, ?_⟩) hHeld ?_; rotate_left; (focus (intro w hSw; (try dsimp only at hSw); go_simp; try (with_reducible rfl))); (try simp only [Act.put, List.getElem_toArray, List.getElem_cons_succ, List.getElem_cons_zero, List.setIfInBounds_toArray, List.set_cons_zero, List.set_cons_succ]))
  (refine wpAnyE_take (n := 12) (i := 2) (v := ?_) rfl (by kernel_rfl) (by kernel_rfl) (by kernel_rfl) (by kernel_rfl) (by kernel_rfl) (fun _ _ _ h => h) (Or.inl ⟨by rfl, ?_⟩) hHeld ?_; rotate_left; (focus (intro w hSw; (try dsimp only at hSw); go_simp; try (with_reducible rfl))); (try simp only [Act.put, List.getElem_toArray, List.getElem_cons_succ, List.getElem_cons_zero, List.setIfInBounds_toArray, List.set_cons_zero, List.set_cons_succ]))
  (refine wpAnyE_take (n := 12) (i := 3) (v := ?_) rfl (by kernel_rfl) (by kernel_rfl) (by kernel_rfl) (by kernel_rfl) (by kernel_rfl) (fun _ _ _ h => h) (Or.inl ⟨by rfl, ?_⟩) hHeld ?_; rotate_left; (focus (intro w hSw; (try dsimp only at hSw); go_simp; try (with_reducible rfl))); (try simp only [Act.put, List.getElem_toArray, List.getElem_cons_succ, List.getElem_cons_zero, List.setIfInBounds_toArray, List.set_cons_zero, List.set_cons_succ]))
  (refine wpAnyE_take (n := 12) (i := 4) (v := ?_) rfl (by kernel_rfl) (by kernel_rfl) (by kernel_rfl) (by kernel_rfl) (by kernel_rfl) (fun _ _ _ h => h) (Or.inl ⟨by rfl, ?_⟩) hHeld ?_; rotate_left; (focus (intro w hSw; (try dsimp only at hSw); go_simp; try (with_reducible rfl))); (try simp only [Act.put, List.getElem_toArray, List.getElem_cons_succ, List.getElem_cons_zero, List.setIfInBounds_toArray, List.set_cons_zero, List.set_cons_succ]))
  (refine wpAnyE_take (n := 12) (i := 5) (v := ?_) rfl (by kernel_rfl) (by kernel_rfl) (by kernel_rfl) (by kernel_rfl) (by kernel_rfl) (fun _ _ _ h => h) (Or.inl ⟨by rfl, ?_⟩) hHeld ?_; rotate_left; (focus (intro w hSw; (try dsimp only at hSw); go_simp; try (with_reducible rfl))); (try simp only [Act.put, List.getElem_toArray, List.getElem_cons_succ, List.getElem_cons_zero, List.setIfInBounds_toArray, List.set_cons_zero, List.set_cons_succ]))
  refine awpE_named ?_
  intro q0 hq0
  have HBq0 : Hid (Below W2.heap.size W2 q0) := Lib.hid (by rw [hq0]; exact b_drew (Below.refl _ _))
  clear hq0
  replace hHeld := HS.out _ HBq0.out
  refine wpAnyE_ready (rs := [6]) (by kernel_rfl) (by simp) (AllReadyE.cons rfl (fun K hK => ?_) AllReadyE.nil)
  go_simp
  refine hK.out _ _ (HS.out _ (b_alloc HBq0.out _)) (fun hHeld => ?_)
  clear hK K
  (try simp only [Act.put, List.getElem_toArray, List.getElem_cons_succ, List.getElem_cons_zero, List.setIfInBounds_toArray, List.set_cons_zero, List.set_cons_succ])
  refine awpE_named ?_
  intro q1 hq1
  have HBq1 : Hid (Below W2.heap.size W2 q1) := Lib.hid (by rw [hq1]; exact b_alloc HBq0.out _)
  obtain ⟨Y, hY⟩ : ∃ x, x = q0.heap.size := ⟨_, rfl⟩
  rw [← hY]
  have HYq1 : Hid (Blk q1 Y (inE.cells ⟨vo, vx, va, vb⟩)) := Lib.hid (by rw [hq1, hY]; exact blk_new _ _ _)
  clear hq1 hY
  replace hHeld := HS.out _ HBq1.out
  have HBw1 : Hid (Below w.heap.size w q1) := Lib.hid (b_call HB2.out HBq1.out)
  have HL1 := Lib.hid (lastF_grown (r := none) (gb_of HBw1.out none) (fun j e => by cases e) HLF.out)
  have HCL : Hid (m.code.length ≤ 1000000) := Lib.hid (HSM.out m (by rw [HF0.out]; simp))
  have HBL1 : Hid (Bl ≤ q1.heap.size) := Lib.hid HL1.out.z
  refine wpAnyE_ready (rs := [7]) (by kernel_rfl) (by simp) (AllReadyE.cons rfl (fun K hK => ?_) AllReadyE.nil)
  refine step_append1 rowPIn (by rfl) _ _ (by rfl) (by rfl) (B := Bl) HL1.out.o ⟨vo, vx, va, vb⟩ Y 1 (by rfl) HYq1.out (by have := HCL.out; omega) (by have := HCL.out; unfold maxLen; omega) HBL1.out ?_
  intro g' cap' q2 own' hg' hor hl'
  have HOWq1 := Lib.hid (ownR_below HOWN.out HBw1.out)
  have HOWq2 := Lib.hid (ownR_kept HOWq1.out hg' (by
    cases e : (Sl.v ⟨some ⟨gb, 0, none⟩, (L0 ++ [(⟨⟨pa, pn, pc⟩, ⟨xa, xn, xc⟩, vr, ⟨ca, cn, cc⟩⟩ : FnV)]).length, sc⟩).ownBlock with
    | none => exact Or.inl rfl
    | some j =>
      refine Or.inr (fun z => ?_)
      have a1 := ownR_ty HOWq1.out j e
      have a2 := ownR_ty HL1.out.o j z.symm
      rw [a1] at a2
      injection a2 with a2
      exact absurd a2 (by decide)))
  have HBK : Hid (Blk q2 gb (fnE.row (L0 ++ [(⟨⟨pa, pn, pc⟩, ⟨xa, xn, xc⟩, vr, ⟨ca, cn, cc⟩⟩ : FnV)]))) := Lib.hid (by
    obtain ⟨gb', gc', e', _, _, _, _, k5⟩ := ownR_form HOWq2.out (by simp)
    have e2 : gb' = gb := by injection e' with e' _ _; injection e' with e'; injection e' with e'; exact e'.symm
    subst e2
    exact k5)
  have HXq2 : Hid (Blk q2 w1.heap.size [.int .i64 vo, .int .u64 vx, .int .i64 va, .int .i64 vb]) := Lib.hid (blk_grown (blk_below HX2.out HBq1.out) hg' (fun e => by
    have := (ownR_lt HLF.out.o _ e.symm).2
    have := HSZ.out
    omega))
  have HG' := Lib.hid hg'
  have HO' := Lib.hid own'
  clear own' hg' hor hl'
  refine hK.out _ _ (⟨fn_last HBK.out, (blk4 HXq2.out).1, (blk4 HXq2.out).2.1, (blk4 HXq2.out).2.2.1, (blk4 HXq2.out).2.2.2.1⟩) (fun hHeld => ?_)
  clear hK K
  (try simp only [Act.put, List.getElem_toArray, List.getElem_cons_succ, List.getElem_cons_zero, List.setIfInBounds_toArray, List.set_cons_zero, List.set_cons_succ])
  (refine wpAnyE_take (n := 12) (i := 8) (v := ?_) rfl (by kernel_rfl) (by kernel_rfl) (by kernel_rfl) (by kernel_rfl) (by kernel_rfl) (fun _ _ _ h => h) (Or.inl ⟨by rfl, ?_⟩) hHeld ?_; rotate_left; (focus (intro w hSw; (try dsimp only at hSw); go_simp; try (with_reducible rfl))); (try simp only [Act.put, List.getElem_toArray, List.getElem_cons_succ, List.getElem_cons_zero, List.setIfInBounds_toArray, List.set_cons_zero, List.set_cons_succ]))
  (refine wpAnyE_take (n := 12) (i := 9) (v := ?_) rfl (by kernel_rfl) (by kernel_rfl) (by kernel_rfl) (by kernel_rfl) (by kernel_rfl) (fun _ _ _ h => h) (Or.inl ⟨by rfl, ?_⟩) hHeld ?_; rotate_left; (focus (intro w hSw; (try dsimp only at hSw); go_simp; try (with_reducible rfl))); (try simp only [Act.put, List.getElem_toArray, List.getElem_cons_succ, List.getElem_cons_zero, List.setIfInBounds_toArray, List.set_cons_zero, List.set_cons_succ]))
  have c3 := fn_last HBK.out
  have f3 := HBK.out.2.2
  have z3 := HBK.out.1
  simp only [Sl.v] at c3
  refine wpAnyE_ready (rs := [10]) (by kernel_rfl) (by simp) (AllReadyE.last rfl (fun K hK => ?_))
  go_simp
  refine hK.out _ _ (trivial) (fun hHeld => ?_)
  clear hK K
  (try simp only [Act.put, List.getElem_toArray, List.getElem_cons_succ, List.getElem_cons_zero, List.setIfInBounds_toArray, List.set_cons_zero, List.set_cons_succ])
  refine wpAnyE_done (by kernel_rfl) ?_
  go_wp2_with fail
  refine post_named ?_
  intro wF hwF
  have HFN := fns_code (c' := ⟨some ⟨g', 0, none⟩, m.code.length + 1, cap'⟩) (i := ⟨vo, vx, va, vb⟩) HOWN.out rfl HB3.out HALL.out HLF.out HBw1.out HO'.out HG'.out
  have hFF : wF = q2.setCell ⟨gb, L0.length * 4 + 3, none⟩ (Sl.v ⟨some ⟨g', 0, none⟩, m.code.length + 1, cap'⟩) := hwF
  rw [← hFF] at HFN
  have hgt : tyB w gb = some FUNT := ownR_ty HOWN.out gb rfl
  have hkeep : ∀ k X, tyB w k = some X → X ≠ INST → X ≠ FUNT → wF.heap[k]? = w.heap[k]? := fun k X hk h1 h2 => by
    have hlt := tyB_lt hk
    have e1 : q1.heap[k]? = w.heap[k]? := HBw1.out.block k hlt
    have e2 : q2.heap[k]? = q1.heap[k]? := HG'.out.block k (Nat.lt_of_lt_of_le hlt HBw1.out.size) (fun e => by
      have := ownR_ty HLF.out.o k e.symm
      rw [hk] at this
      injection this with this
      exact h1 this)
    have e3 : wF.heap[k]? = q2.heap[k]? := by
      rw [hFF]
      refine Below.heap_setCell _ _ _ _ (fun e => ?_)
      have e : k = gb := e
      subst e
      rw [hgt] at hk
      injection hk with hk
      exact h2 hk.symm
    rw [e3, e2, e1]
  have hsz : w.heap.size ≤ wF.heap.size := by
    rw [hFF]
    have a1 := HBw1.out.size
    have a2 := HG'.out.size
    simp; omega
  have hbe : Below W0.heap.size W0 wF := by
    rw [hFF]
    exact b_set (b_gr0 (b_call H.out.be HBw1.out) HG'.out (fun j e => Nat.le_trans HB3.out (ownR_lt HLF.out.o j e).1)) HG1.out _
  clear hwF
  go_ret
  refine ⟨rfl, hbe, fun P' n e => ?_⟩
  injection e with e
  injection e with e1 e2
  subst e1 e2
  refine ⟨⟨hsz, fun k hk => hkeep k STRT hk (by decide) (by decide)⟩, g, ⟨some ⟨gb, 0, none⟩, (L0 ++ [(⟨⟨pa, pn, pc⟩, ⟨xa, xn, xc⟩, vr, ⟨ca, cn, cc⟩⟩ : FnV)]).length, sc⟩, ?_⟩
  rw [HF0.out, HI.out]
  exact ard_other H.out hsz (fun k hk => by
    rcases hk with hk | hk
    · exact hkeep k ARDT hk (by decide) (by decide)
    · exact hkeep k INTT hk (by decide) (by decide)) hbe HFN
set_option maxRecDepth 100000 in
set_option maxHeartbeats 2000000 in
theorem fun_bad (h : ARdAt W0 w rb fi nx P g s) {b o n cap : Nat} {x y z : List UInt8} (hn : n = 4) (hnc : n ≤ cap) (hcm : cap ≤ 9223372036854775807) (hb : b < w.heap.size) (c1 : w.cell? ⟨b, o + 1, none⟩ = some (.string ⟨x.toArray⟩)) (c2 : w.cell? ⟨b, o + 2, none⟩ = some (.string ⟨y.toArray⟩)) (c3 : w.cell? ⟨b, o + 3, none⟩ = some (.string ⟨z.toArray⟩))
    (hx0 : x ≠ []) (hy0 : y ≠ []) (hz0 : z ≠ []) (hx : x.length ≤ 1000000) (hy : y.length ≤ 1000000) (hz : z.length ≤ 1000000) (hbad : listL x = none ∨ listL y = none ∨ listL z = none ∨ ∃ c, listL z = some c ∧ c.length ≠ 1) : Calls Tryd.prog 89 #[rp rb, .slice (some ⟨b, o, none⟩) n cap] w fun e w' => e = .returned (.bool false) ∧ Below w.heap.size w w' := by
  have hn4 : ((n : Int) != 4) = false := by rw [hn]; rfl
  have hn5 : 3 < n := by omega
  have HLX := Lib.hid (fun w => alist_any x hx0 w hx)
  have HLY := Lib.hid (fun w => alist_any y hy0 w hy)
  have HLZ := Lib.hid (fun w => alist_any z hz0 w hz)
  unfold strV at HLX HLY HLZ
  have CC : Hid (∀ w', Below w.heap.size w w' → w'.cell? ⟨b, o + 1, none⟩ = some (.string ⟨x.toArray⟩) ∧ w'.cell? ⟨b, o + 2, none⟩ = some (.string ⟨y.toArray⟩) ∧ w'.cell? ⟨b, o + 3, none⟩ = some (.string ⟨z.toArray⟩)) := Lib.hid (fun w' hw => ⟨((bcell hw).1 b _ hb).trans c1, ((bcell hw).1 b _ hb).trans c2, ((bcell hw).1 b _ hb).trans c3⟩)
  clear hn c2 c3
  have HBAD := Lib.hid hbad
  clear h hbad
  unfold rp
  go_enter Tryd.func89, Tryd.ntmps89
  go_wp2_with fail
  refine (HLX.out _).mono ?_
  rintro e w1 ⟨⟨a1, n1, k1, rfl, hv1⟩, hb1⟩
  have HB1 := Lib.hid hb1
  have HV1 := Lib.hid hv1
  clear hb1 hv1
  have c2' := (CC.out _ HB1.out).2.1
  have c3' := (CC.out _ HB1.out).2.2
  have hbs1 := Nat.lt_of_lt_of_le hb HB1.out.size
  go_wp2_with fail
  refine (HLY.out _).mono ?_
  rintro e w2 ⟨⟨a2, n2, k2, rfl, hv2⟩, hb2⟩
  have HB2 := Lib.hid (b_call HB1.out hb2)
  have HB12 := Lib.hid hb2
  have HV2 := Lib.hid hv2
  clear hb2 hv2 c2' c3'
  have c3' := (CC.out _ HB2.out).2.2
  have hbs2 := Nat.lt_of_lt_of_le hb HB2.out.size
  go_wp2_with fail
  refine (HLZ.out _).mono ?_
  rintro e w3 ⟨⟨a3, n3, k3, rfl, hv3⟩, hb3⟩
  have HB3 := Lib.hid (b_call HB2.out hb3)
  have HB23 := Lib.hid hb3
  have HV3 := Lib.hid hv3
  clear hb3 hv3 c3'
  have HN3 : Hid ((listL x).isSome = true → (listL y).isSome = true → (listL z).isSome = true → ((n3 : Int) != 1) = true) := Lib.hid (fun q1 q2 q3 => by
    rcases HBAD.out with h | h | h | ⟨c, h, hl⟩
    · rw [h] at q1; cases q1
    · rw [h] at q2; cases q2
    · rw [h] at q3; cases q3
    · obtain ⟨_, _, e⟩ := readI_len (ownI_read (HV3.out c h))
      injection e with _ e _
      rw [e]; simp; omega)
  cases hA : (listL x).isSome <;> cases hB : (listL y).isSome <;> cases hC : (listL z).isSome
  case true.true.true =>
    have hq := HN3.out hA hB hC
    go_wp2_with fail
    go_ret
    exact ⟨rfl, HB3.out⟩
  all_goals
    go_wp2_with fail
    go_ret
    exact ⟨rfl, HB3.out⟩
set_option maxRecDepth 100000 in
set_option maxHeartbeats 2000000 in
theorem fun_yes (h : ARdAt W0 w rb fi (nxV rb 3) P g s) {b o n cap : Nat} {x y z : List UInt8} (hn : n = 4) (hnc : n ≤ cap) (hcm : cap ≤ 9223372036854775807) (hb : b < w.heap.size) (c1 : w.cell? ⟨b, o + 1, none⟩ = some (.string ⟨x.toArray⟩)) (c2 : w.cell? ⟨b, o + 2, none⟩ = some (.string ⟨y.toArray⟩)) (c3 : w.cell? ⟨b, o + 3, none⟩ = some (.string ⟨z.toArray⟩))
    (hx0 : x ≠ []) (hy0 : y ≠ []) (hz0 : z ≠ []) (hx : x.length ≤ 1000000) (hy : y.length ≤ 1000000) (hz : z.length ≤ 1000000) {la lb : List Int} {kr : Int} (hla : listL x = some la) (hlb : listL y = some lb) (hlc : listL z = some [kr]) (hfl : P.fs.length ≤ 1000000) : Calls Tryd.prog 89 #[rp rb, .slice (some ⟨b, o, none⟩) n cap] w (ARdEnd W0 w rb fi (some ({ P with fs := P.fs ++ [⟨la, lb, kr, []⟩] }, 3))) := by
  have hn4 : ((n : Int) != 4) = false := by rw [hn]; rfl
  have hn5 : 3 < n := by omega
  have HLX := Lib.hid (fun w => alist_any x hx0 w hx)
  have HLY := Lib.hid (fun w => alist_any y hy0 w hy)
  have HLZ := Lib.hid (fun w => alist_any z hz0 w hz)
  unfold strV at HLX HLY HLZ
  have CC : Hid (∀ w', Below w.heap.size w w' → w'.cell? ⟨b, o + 1, none⟩ = some (.string ⟨x.toArray⟩) ∧ w'.cell? ⟨b, o + 2, none⟩ = some (.string ⟨y.toArray⟩) ∧ w'.cell? ⟨b, o + 3, none⟩ = some (.string ⟨z.toArray⟩)) := Lib.hid (fun w' hw => ⟨((bcell hw).1 b _ hb).trans c1, ((bcell hw).1 b _ hb).trans c2, ((bcell hw).1 b _ hb).trans c3⟩)
  clear hn c2 c3
  have H := Lib.hid h
  have HLA := Lib.hid hla
  have HLB := Lib.hid hlb
  have HLC := Lib.hid hlc
  have HFL := Lib.hid hfl
  clear h hla hlb hlc hfl
  unfold rp
  go_enter Tryd.func89, Tryd.ntmps89
  go_wp2_with fail
  refine (HLX.out _).mono ?_
  rintro e w1 ⟨⟨a1, n1, k1, rfl, hv1⟩, hb1⟩
  have HB1 := Lib.hid hb1
  have HV1 := Lib.hid hv1
  clear hb1 hv1
  have c2' := (CC.out _ HB1.out).2.1
  have c3' := (CC.out _ HB1.out).2.2
  have hbs1 := Nat.lt_of_lt_of_le hb HB1.out.size
  go_wp2_with fail
  refine (HLY.out _).mono ?_
  rintro e w2 ⟨⟨a2, n2, k2, rfl, hv2⟩, hb2⟩
  have HB2 := Lib.hid (b_call HB1.out hb2)
  have HB12 := Lib.hid hb2
  have HV2 := Lib.hid hv2
  clear hb2 hv2 c2' c3'
  have c3' := (CC.out _ HB2.out).2.2
  have hbs2 := Nat.lt_of_lt_of_le hb HB2.out.size
  go_wp2_with fail
  refine (HLZ.out _).mono ?_
  rintro e w3 ⟨⟨a3, n3, k3, rfl, hv3⟩, hb3⟩
  have HB3 := Lib.hid (b_call HB2.out hb3)
  have HB23 := Lib.hid hb3
  have HV3 := Lib.hid hv3
  clear hb3 hv3 c3'
  have hA : (listL x).isSome = true := by rw [HLA.out]; rfl
  have hB : (listL y).isSome = true := by rw [HLB.out]; rfl
  have hC : (listL z).isSome = true := by rw [HLC.out]; rfl
  have HO1 := Lib.hid (HV1.out la HLA.out)
  have HO2 := Lib.hid (HV2.out lb HLB.out)
  have HO3 := Lib.hid (HV3.out [kr] HLC.out)
  obtain ⟨rg, ro, rc, e3, rr1, rr2, rr3, rr4⟩ := readI_pos (ownI_read HO3.out) (by simp)
  injection e3 with e31 e32 e33
  have rr5 : w3.cell? ⟨rg, ro, none⟩ = some (.int .i64 kr) := by simpa using rr4 0 (by simp)
  subst e31 e33
  have hn31 : ((n3 : Int) != 1) = false := by rw [e32]; rfl
  have hn30 : 0 < n3 := by rw [e32]; simp
  have hn3c : n3 ≤ k3 := by rw [e32]; exact rr1
  have hk3 := cap_le rr2
  have HRR := Lib.hid rr5
  have H3 := Lib.hid (ard_below H.out HB3.out)
  clear rr1 rr2 rr4 e32
  obtain ⟨sa, sn, sc⟩ := s
  go_upto_region 8 with fail
  have HS : Hid (∀ w', Below w3.heap.size w3 w' → (w'.cell? ⟨rb, 3, none⟩ = some (.slice sa sn sc) ∧ w'.cell? ⟨rg, ro, none⟩ = some (.int .i64 kr))) := Lib.hid (fun w' hw => ⟨(ard_cells (ard_below H3.out hw)).2.2.2.1, ((bcell hw).1 rg ro rr3).trans HRR.out⟩)
  clear rr5
  refine wp_region_E (S := fun w' => (w'.cell? ⟨rb, 3, none⟩ = some (.slice sa sn sc) ∧ w'.cell? ⟨rg, ro, none⟩ = some (.int .i64 kr))) 17 (by kernel_rfl) (HS.out _ (b_drew (Below.refl _ _))) (fun hHeld => ?_)
  (refine wpAnyE_take (n := 12) (i := 0) (v := ?_) rfl (by kernel_rfl) (by kernel_rfl) (by kernel_rfl) (by kernel_rfl) (by kernel_rfl) (fun _ _ _ h => h) (Or.inl ⟨by rfl, ?_⟩) hHeld ?_; rotate_left; (focus (intro w hSw; (try dsimp only at hSw); go_simp; try (with_reducible rfl))); (try simp only [Act.put, List.getElem_toArray, List.getElem_cons_succ, List.getElem_cons_zero, List.setIfInBounds_toArray, List.set_cons_zero, List.set_cons_succ]))
  (refine wpAnyE_take (n := 12) (i := 1) (v := ?_) rfl (by kernel_rfl) (by kernel_rfl) (by kernel_rfl) (by kernel_rfl) (by kernel_rfl) (fun _ _ _ h => h) (Or.inl ⟨by rfl, ?_⟩) hHeld ?_; rotate_left; (focus (intro w hSw; (try dsimp only at hSw); go_simp; try (with_reducible rfl))); (try simp only [Act.put, List.getElem_toArray, List.getElem_cons_succ, List.getElem_cons_zero, List.setIfInBounds_toArray, List.set_cons_zero, List.set_cons_succ]))
  (refine wpAnyE_take (n := 12) (i := 2) (v := ?_) rfl (by kernel_rfl) (by kernel_rfl) (by kernel_rfl) (by kernel_rfl) (by kernel_rfl) (fun _ _ _ h => h) (Or.inl ⟨by rfl, ?_⟩) hHeld ?_; rotate_left; (focus (intro w hSw; (try dsimp only at hSw); go_simp; try (with_reducible rfl))); (try simp only [Act.put, List.getElem_toArray, List.getElem_cons_succ, List.getElem_cons_zero, List.setIfInBounds_toArray, List.set_cons_zero, List.set_cons_succ]))
  (refine wpAnyE_take (n := 12) (i := 3) (v := ?_) rfl (by kernel_rfl) (by kernel_rfl) (by kernel_rfl) (by kernel_rfl) (by kernel_rfl) (fun _ _ _ h => h) (Or.inl ⟨by rfl, ?_⟩) hHeld ?_; rotate_left; (focus (intro w hSw; (try dsimp only at hSw); go_simp; try (with_reducible rfl))); (try simp only [Act.put, List.getElem_toArray, List.getElem_cons_succ, List.getElem_cons_zero, List.setIfInBounds_toArray, List.set_cons_zero, List.set_cons_succ]))
  (refine wpAnyE_take (n := 12) (i := 4) (v := ?_) rfl (by kernel_rfl) (by kernel_rfl) (by kernel_rfl) (by kernel_rfl) (by kernel_rfl) (fun _ _ _ h => h) (Or.inl ⟨by rfl, ?_⟩) hHeld ?_; rotate_left; (focus (intro w hSw; (try dsimp only at hSw); go_simp; try (with_reducible rfl))); (try simp only [Act.put, List.getElem_toArray, List.getElem_cons_succ, List.getElem_cons_zero, List.setIfInBounds_toArray, List.set_cons_zero, List.set_cons_succ]))
  (refine wpAnyE_take (n := 12) (i := 5) (v := ?_) rfl (by kernel_rfl) (by kernel_rfl) (by kernel_rfl) (by kernel_rfl) (by kernel_rfl) (fun _ _ _ h => h) (Or.inl ⟨by rfl, ?_⟩) hHeld ?_; rotate_left; (focus (intro w hSw; (try dsimp only at hSw); go_simp; try (with_reducible rfl))); (try simp only [Act.put, List.getElem_toArray, List.getElem_cons_succ, List.getElem_cons_zero, List.setIfInBounds_toArray, List.set_cons_zero, List.set_cons_succ]))
  (refine wpAnyE_take (n := 12) (i := 6) (v := ?_) rfl (by kernel_rfl) (by kernel_rfl) (by kernel_rfl) (by kernel_rfl) (by kernel_rfl) (fun _ _ _ h => h) (Or.inl ⟨by rfl, ?_⟩) hHeld ?_; rotate_left; (focus (intro w hSw; (try dsimp only at hSw); go_simp; try (with_reducible rfl))); (try simp only [Act.put, List.getElem_toArray, List.getElem_cons_succ, List.getElem_cons_zero, List.setIfInBounds_toArray, List.set_cons_zero, List.set_cons_succ]))
  (refine wpAnyE_take (n := 12) (i := 7) (v := ?_) rfl (by kernel_rfl) (by kernel_rfl) (by kernel_rfl) (by kernel_rfl) (by kernel_rfl) (fun _ _ _ h => h) (Or.inl ⟨by rfl, ?_⟩) hHeld ?_; rotate_left; (focus (intro w hSw; (try dsimp only at hSw); go_simp; try (with_reducible rfl))); (try simp only [Act.put, List.getElem_toArray, List.getElem_cons_succ, List.getElem_cons_zero, List.setIfInBounds_toArray, List.set_cons_zero, List.set_cons_succ]))
  (refine wpAnyE_take (n := 12) (i := 8) (v := ?_) rfl (by kernel_rfl) (by kernel_rfl) (by kernel_rfl) (by kernel_rfl) (by kernel_rfl) (fun _ _ _ h => h) (Or.inl ⟨by rfl, ?_⟩) hHeld ?_; rotate_left; (focus (intro w hSw; (try dsimp only at hSw); go_simp; try (with_reducible rfl))); (try simp only [Act.put, List.getElem_toArray, List.getElem_cons_succ, List.getElem_cons_zero, List.setIfInBounds_toArray, List.set_cons_zero, List.set_cons_succ]))
  (refine wpAnyE_take (n := 12) (i := 9) (v := ?_) rfl (by kernel_rfl) (by kernel_rfl) (by kernel_rfl) (by kernel_rfl) (by kernel_rfl) (fun _ _ _ h => h) (Or.inl ⟨by rfl, ?_⟩) hHeld ?_; rotate_left; (focus (intro w hSw; (try dsimp only at hSw); go_simp; try (with_reducible rfl))); (try simp only [Act.put, List.getElem_toArray, List.getElem_cons_succ, List.getElem_cons_zero, List.setIfInBounds_toArray, List.set_cons_zero, List.set_cons_succ]))
  (refine wpAnyE_take (n := 12) (i := 10) (v := ?_) rfl (by kernel_rfl) (by kernel_rfl) (by kernel_rfl) (by kernel_rfl) (by kernel_rfl) (fun _ _ _ h => h) (Or.inl ⟨by rfl, ?_⟩) hHeld ?_; rotate_left; (focus (intro w hSw; (try dsimp only at hSw); go_simp; try (with_reducible rfl))); (try simp only [Act.put, List.getElem_toArray, List.getElem_cons_succ, List.getElem_cons_zero, List.setIfInBounds_toArray, List.set_cons_zero, List.set_cons_succ]))
  (refine wpAnyE_take (n := 12) (i := 11) (v := ?_) rfl (by kernel_rfl) (by kernel_rfl) (by kernel_rfl) (by kernel_rfl) (by kernel_rfl) (fun _ _ _ h => h) (Or.inl ⟨by rfl, ?_⟩) hHeld ?_; rotate_left; (focus (intro w hSw; (try dsimp only at hSw); go_simp; try (with_reducible rfl))); (try simp only [Act.put, List.getElem_toArray, List.getElem_cons_succ, List.getElem_cons_zero, List.setIfInBounds_toArray, List.set_cons_zero, List.set_cons_succ]))
  refine awpE_named ?_
  intro q0 hq0
  have HBq0 : Hid (Below w3.heap.size w3 q0) := Lib.hid (by rw [hq0]; exact b_drew (Below.refl _ _))
  clear hq0
  replace hHeld := HS.out _ HBq0.out
  refine wpAnyE_ready (rs := [12]) (by kernel_rfl) (by simp) (AllReadyE.cons rfl (fun K hK => ?_) AllReadyE.nil)
  go_simp
  refine hK.out _ _ (HS.out _ (b_alloc HBq0.out _)) (fun hHeld => ?_)
  clear hK K
  (try simp only [Act.put, List.getElem_toArray, List.getElem_cons_succ, List.getElem_cons_zero, List.setIfInBounds_toArray, List.set_cons_zero, List.set_cons_succ])
  refine awpE_named ?_
  intro q1 hq1
  have HBq1 : Hid (Below w3.heap.size w3 q1) := Lib.hid (by rw [hq1]; exact b_alloc HBq0.out _)
  obtain ⟨Y, hY⟩ : ∃ x, x = q0.heap.size := ⟨_, rfl⟩
  rw [← hY]
  have HYq1 : Hid (Blk q1 Y (fnE.cells ⟨⟨a1, n1, k1⟩, ⟨a2, n2, k2⟩, kr, ⟨none, 0, 0⟩⟩)) := Lib.hid (by rw [hq1, hY]; exact blk_new _ _ _)
  clear hq1 hY
  replace hHeld := HS.out _ HBq1.out
  have HBw1 : Hid (Below w.heap.size w q1) := Lib.hid (b_call HB3.out HBq1.out)
  have Hq1 := Lib.hid (ard_below H3.out HBq1.out)
  obtain ⟨L, HLo, HLa⟩ := Hq1.out.fs
  have HOWN : Hid (OwnR fnE FUNT q1 W0.heap.size (.slice sa sn sc) L) := Lib.hid HLo
  have HLA2 := Lib.hid HLa
  have HLL : Hid (L.length ≤ 1000000) := Lib.hid (by rw [lastO_len HLa]; exact HFL.out)
  clear HLo HLa
  have HB0 : Hid (W0.heap.size ≤ q1.heap.size) := Lib.hid Hq1.out.be.size
  refine wpAnyE_ready (rs := [13]) (by kernel_rfl) (by simp) (AllReadyE.cons rfl (fun K hK => ?_) AllReadyE.nil)
  refine step_append1 rowAF (by rfl) _ _ (by rfl) (by rfl) (B := W0.heap.size) HOWN.out ⟨⟨a1, n1, k1⟩, ⟨a2, n2, k2⟩, kr, ⟨none, 0, 0⟩⟩ Y 1 (by rfl) HYq1.out (by have := HLL.out; omega) (by have := HLL.out; unfold maxLen; omega) HB0.out ?_
  intro g' cap' q2 own' hg' hor hl'
  have HG' := Lib.hid hg'
  have HO' := Lib.hid own'
  have hft : ∀ j, (Value.slice sa sn sc).ownBlock = some j → tyB q1 j = some FUNT := fun j e => ownR_ty HOWN.out j e
  have hkeep : ∀ k X, tyB q1 k = some X → X ≠ FUNT → q2.heap[k]? = q1.heap[k]? := fun k X hk h1 => HG'.out.block k (tyB_lt hk) (fun e => by
    have := hft k e.symm
    rw [hk] at this
    injection this with this
    exact h1 this)
  have HHD : Hid (Blk q2 rb [.bool P.u, g.v, .int .i64 P.m, .slice sa sn sc, .bool fi, nxV rb 3]) := Lib.hid (blk_same Hq1.out.hd (hkeep rb ARDT Hq1.out.ty (by decide)) HG'.out.size)
  have HTY : Hid (tyB q2 rb = some ARDT) := Lib.hid (by rw [tyB_block (hkeep rb ARDT Hq1.out.ty (by decide))]; exact Hq1.out.ty)
  have HR1 := Lib.hid (readI_below (ownI_read HO1.out) (b_call HB12.out (b_call HB23.out HBq1.out)))
  have HR2 := Lib.hid (readI_below (ownI_read HO2.out) (b_call HB23.out HBq1.out))
  have HS1 := Lib.hid (slOk_keep (ownI_sl HO1.out) (fun k hk => tyB_call hk (b_call HB12.out (b_call HB23.out HBq1.out))))
  have HS2 := Lib.hid (slOk_keep (ownI_sl HO2.out) (fun k hk => tyB_call hk (b_call HB23.out HBq1.out)))
  have HFN := Lib.hid (fns_add (s := ⟨sa, sn, sc⟩) (s' := ⟨some ⟨g', 0, none⟩, L.length + 1, cap'⟩) HOWN.out HLA2.out HB0.out HG'.out (p := ⟨a1, n1, k1⟩) (l := ⟨a2, n2, k2⟩) (r := kr) HO'.out HR1.out HS1.out HR2.out HS2.out)
  have HKP := Lib.hid hkeep
  have HRG : Hid (q2.cell? ⟨rg, ro, none⟩ = q2.cell? ⟨rg, ro, none⟩) := Lib.hid rfl
  have HBE : Hid (Below W0.heap.size W0 q2) := Lib.hid (b_gr0 Hq1.out.be HG'.out (fun j e => (ownR_lt HOWN.out j e).1))
  have HTI : Hid (q2.cell? ⟨rg, ro, none⟩ = some (.int .i64 kr)) := Lib.hid (by
    have ht3 := ownI_sl HO3.out
    have htg : tyB q1 rg = some INTT := by
      rcases ht3 with h | ⟨k, e, h⟩
      · omega
      · injection e with e
        injection e with e
        rw [e]; exact tyB_call h HBq1.out
    have e := hkeep rg INTT htg (by decide)
    have e2 := (HS.out _ HBq1.out).2
    rw [← e2]
    unfold World.cell?
    simp only [e])
  clear own' hg' hor hl' hkeep hft
  refine hK.out _ _ (⟨HHD.out.2.1 3 (by simp), HTI.out⟩) (fun hHeld => ?_)
  clear hK K
  (try simp only [Act.put, List.getElem_toArray, List.getElem_cons_succ, List.getElem_cons_zero, List.setIfInBounds_toArray, List.set_cons_zero, List.set_cons_succ])
  (refine wpAnyE_take (n := 12) (i := 14) (v := ?_) rfl (by kernel_rfl) (by kernel_rfl) (by kernel_rfl) (by kernel_rfl) (by kernel_rfl) (fun _ _ _ h => h) (Or.inl ⟨by rfl, ?_⟩) hHeld ?_; rotate_left; (focus (intro w hSw; (try dsimp only at hSw); go_simp; try (with_reducible rfl))); (try simp only [Act.put, List.getElem_toArray, List.getElem_cons_succ, List.getElem_cons_zero, List.setIfInBounds_toArray, List.set_cons_zero, List.set_cons_succ]))
  (refine wpAnyE_take (n := 12) (i := 15) (v := ?_) rfl (by kernel_rfl) (by kernel_rfl) (by kernel_rfl) (by kernel_rfl) (by kernel_rfl) (fun _ _ _ h => h) (Or.inl ⟨by rfl, ?_⟩) hHeld ?_; rotate_left; (focus (intro w hSw; (try dsimp only at hSw); go_simp; try (with_reducible rfl))); (try simp only [Act.put, List.getElem_toArray, List.getElem_cons_succ, List.getElem_cons_zero, List.setIfInBounds_toArray, List.set_cons_zero, List.set_cons_succ]))
  (refine wpAnyE_take (n := 12) (i := 16) (v := ?_) rfl (by kernel_rfl) (by kernel_rfl) (by kernel_rfl) (by kernel_rfl) (by kernel_rfl) (fun _ _ _ h => h) (Or.inl ⟨by rfl, ?_⟩) hHeld ?_; rotate_left; (focus (intro w hSw; (try dsimp only at hSw); go_simp; try (with_reducible rfl))); (try simp only [Act.put, List.getElem_toArray, List.getElem_cons_succ, List.getElem_cons_zero, List.setIfInBounds_toArray, List.set_cons_zero, List.set_cons_succ]))
  have c3 : q2.cell? ⟨rb, 3, none⟩ = some (.slice sa sn sc) := HHD.out.2.1 3 (by simp)
  have f3 := HHD.out.2.2
  have z3 := HHD.out.1
  refine wpAnyE_ready (rs := [17]) (by kernel_rfl) (by simp) (AllReadyE.last rfl (fun K hK => ?_))
  go_simp
  refine hK.out _ _ (trivial) (fun hHeld => ?_)
  clear hK K
  (try simp only [Act.put, List.getElem_toArray, List.getElem_cons_succ, List.getElem_cons_zero, List.setIfInBounds_toArray, List.set_cons_zero, List.set_cons_succ])
  refine wpAnyE_done (by kernel_rfl) ?_
  go_wp2_with fail
  refine post_named ?_
  intro wF hwF
  have hFF : wF = q2.setCell ⟨rb, 3, none⟩ (Sl.v ⟨some ⟨g', 0, none⟩, L.length + 1, cap'⟩) := hwF
  have hgF : q2.grownBy wF (some rb) := by rw [hFF]; exact gb_set (gb_refl q2 (some rb)) 3 none _
  have hXF : ∀ j, some rb = some j → ∃ X, tyB q2 j = some X ∧ X ≠ INTT ∧ X ≠ INST ∧ X ≠ FUNT := fun j e => by
    injection e with e
    subst e
    exact ⟨ARDT, HTY.out, by decide, by decide, by decide⟩
  have hkF : ∀ k X, tyB w k = some X → X ≠ FUNT → X ≠ ARDT → wF.heap[k]? = w.heap[k]? := fun k X hk h1 h2 => by
    have e1 := HBw1.out.block k (tyB_lt hk)
    have hk1 := tyB_call hk HBw1.out
    have e2 := HKP.out k X hk1 h1
    have hk2 : tyB q2 k = some X := by rw [tyB_block e2]; exact hk1
    have e3 := hgF.block k (tyB_lt hk2) (fun e => by
      injection e with e
      subst e
      rw [HTY.out] at hk2
      injection hk2 with hk2
      exact h2 hk2.symm)
    rw [e3, e2, e1]
  have hsz : w.heap.size ≤ wF.heap.size := Nat.le_trans HBw1.out.size (Nat.le_trans HG'.out.size hgF.size)
  have hIt : ∀ k, tyB w k = some INTT → tyB wF k = some INTT := fun k hk => by rw [tyB_block (hkF k INTT hk (by decide) (by decide))]; exact hk
  have hhd : Blk wF rb [.bool P.u, g.v, .int .i64 P.m, Sl.v ⟨some ⟨g', 0, none⟩, L.length + 1, cap'⟩, .bool fi, nxV rb 3] := by rw [hFF]; exact blk_set HHD.out 3 _
  have hty : tyB wF rb = some ARDT := by rw [hFF, tyB_set]; exact HTY.out
  have hbe : Below W0.heap.size W0 wF := b_grown HBE.out hgF H.out.lo
  clear hwF hFF
  go_ret
  refine ⟨rfl, hbe, fun P' n e => ?_⟩
  injection e with e
  injection e with e1 e2
  subst e1 e2
  exact ⟨⟨hsz, fun k hk => hkF k STRT hk (by decide) (by decide)⟩, g, ⟨some ⟨g', 0, none⟩, L.length + 1, cap'⟩, ⟨hhd, hty, readR_I (readR_apart (readI_R H.out.gl) H.out.go hsz (fun k hk => hkF k INTT hk (by decide) (by decide))), slOk_keep H.out.go hIt, fns_grown hgF hXF HFN.out, hbe, H.out.lo⟩⟩
end Go.Proofs.YtedmjlhgpdeafaaDoor
