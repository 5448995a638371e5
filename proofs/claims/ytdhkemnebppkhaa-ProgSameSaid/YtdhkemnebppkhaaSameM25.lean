/- Layer 25: a made program of which one instruction and one result is written anew, as lists. No program in sight, no conditions beside those stated. -/
import Derived.Test.YtdhkemnebppkhaaOursB25
import Derived.Test.YtdhkemnebppkhaaRowW
namespace Go.Proofs.Ytdhkemnebppkhaa
open Go.RowKit
set_option linter.unusedVariables false
set_option linter.unusedSimpArgs false
theorem blk_past {w : World} {g k : Nat} {vs us : List Value} (h : Blk w g vs) (hk : vs.length ≤ k) : Blk (w.setCells g k us) g vs :=
  ⟨by rw [size_sets]; exact h.1, fun i hi => by rw [World.cell?_setCells_out _ _ _ _ _ (fun _ _ => Or.inl (Nat.lt_of_lt_of_le hi hk))]; exact h.2.1 i hi, fun i => by rw [World.frozen?_setCells]; exact h.2.2 i⟩
theorem blk_setI {α : Type} {c : Elt α} {w : World} {g n : Nat} {L : List α} (h : Blk w g (c.row L)) (x : α) : Blk (w.setCells g (n * c.size) (c.cells x)) g (c.row (L.set n x)) := by
  rcases Nat.lt_or_ge n L.length with q | q
  · exact blk_elt c h q x
  · rw [List.set_eq_of_length_le q]
    exact blk_past h (by rw [row_length]; exact Nat.mul_le_mul_right _ q)
/-- What is turned: two blocks alone. -/
structure Turned (w w' : World) (kb fb n : Nat) (i4 old : In4) : Prop where
  s : w.heap.size ≤ w'.heap.size
  k : ∀ b, b < w.heap.size → b ≠ kb → b ≠ fb → w'.heap[b]? = w.heap[b]?
  a : ∀ L : List In4, Blk w kb (inE.row L) → Blk w' kb (inE.row (L.set n i4))
  tk : tyB w kb = some INST
  tf : tyB w fb = some FUNT
  o : ∀ L : List In4, Blk w kb (inE.row L) → ∀ h : n < L.length, L[n] = old
theorem readR_turn {α : Type} {c : Elt α} {w w' : World} {kb fb n : Nat} {i4 old : In4} (T : Turned w w' kb fb n i4 old) {E : TypeId} {a : Option Addr} {m cap : Nat} {xs : List α} (h : ReadR c w (.slice a m cap) xs) (ho : slOk w E a m) (h1 : E ≠ INST) (h2 : E ≠ FUNT) : ReadR c w' (.slice a m cap) xs := by
  rcases ho with hn | ⟨k, rfl, hty⟩
  · obtain ⟨a', c', e, q1, q2, q3, q4⟩ := h
    cases e
    exact ⟨a, cap, rfl, q1, q2, q3, fun hp => by omega⟩
  · refine readR_kept h (fun b hb hl => ?_) T.s
    have e : b = k := by have e1 : some b = some k := hb.symm; injection e1
    subst e
    refine T.k b hl (fun e => ?_) (fun e => ?_)
    · subst e; rw [T.tk] at hty; injection hty with hty; exact h1 hty.symm
    · subst e; rw [T.tf] at hty; injection hty with hty; exact h2 hty.symm
theorem in4_cells {x y : In4} (h : inE.cells x = inE.cells y) : x = y := by
  obtain ⟨a, b, c, d⟩ := x; obtain ⟨a', b', c', d'⟩ := y
  have h : [Value.int .i64 a, .int .u64 b, .int .i64 c, .int .i64 d] = [Value.int .i64 a', .int .u64 b', .int .i64 c', .int .i64 d'] := h
  injection h with h1 h; injection h with h2 h; injection h with h3 h; injection h with h4 h
  injection h1 with _ h1; injection h2 with _ h2; injection h3 with _ h3; injection h4 with _ h4
  subst h1 h2 h3 h4; rfl
theorem blk_same {w : World} {g n : Nat} {L M : List In4} (h : Blk w g (inE.row L)) (h' : Blk w g (inE.row M)) (hn : n < L.length) (hm : n < M.length) : L[n] = M[n] := by
  have hs : inE.size = 4 := rfl
  have key : ∀ r, r < 4 → (inE.cells L[n])[r]? = (inE.cells M[n])[r]? := fun r hr => by
    have e1 := row_at inE L n hn r (by rw [hs]; exact hr)
    have e2 := row_at inE M n hm r (by rw [hs]; exact hr)
    rw [hs] at e1 e2
    have l1 : n * 4 + r < (inE.row L).length := by rw [row_length, hs]; omega
    have l2 : n * 4 + r < (inE.row M).length := by rw [row_length, hs]; omega
    rw [← e1, ← e2, List.getElem?_eq_getElem l1, List.getElem?_eq_getElem l2, ← h.2.1 _ l1, ← h'.2.1 _ l2]
  refine in4_cells (List.ext_getElem? fun r => ?_)
  rcases Nat.lt_or_ge r 4 with q | q
  · exact key r q
  · rw [List.getElem?_eq_none (show (inE.cells L[n]).length ≤ r by exact q), List.getElem?_eq_none (show (inE.cells M[n]).length ≤ r by exact q)]
/-- What a function has become. -/
structure Became (kb n : Nat) (i4 old : In4) (v : FnV) (f f' : FnM) : Prop where
  p : f'.ps = f.ps
  l : f'.ls = f.ls
  r : f'.r = f.r
  len : f'.code.length = f.code.length
  e : i4 = old → f' = f
  c : v.c.a = some ⟨kb, 0, none⟩ → f'.code = f.code.set n i4
theorem turn_one {w w' : World} {B kb fb n : Nat} {i4 old : In4} (T : Turned w w' kb fb n i4 old) {v : FnV} {f : FnM} (hd : DeepF w v f) (ht : FnT w v) (ho : OwnC B w v f) : ∃ f', DeepF w' v f' ∧ Became kb n i4 old v f f' := by
  obtain ⟨⟨pa, pn, pc⟩, ⟨la, ln, lc⟩, r, ⟨ca, cn, cc⟩⟩ := v
  obtain ⟨ps, ls, r', code⟩ := f
  obtain ⟨dp, dl, dr, dc⟩ := hd
  have dp' : ReadI w' (.slice pa pn pc) ps := readR_I (readR_turn T (readI_R (show ReadI w (.slice pa pn pc) ps from dp)) ht.1 (by decide) (by decide))
  have dl' : ReadI w' (.slice la ln lc) ls := readR_I (readR_turn T (readI_R (show ReadI w (.slice la ln lc) ls from dl)) ht.2.1 (by decide) (by decide))
  have dc : ReadR inE w (.slice ca cn cc) code := dc
  have ho : OwnR inE INST w B (.slice ca cn cc) code := ho
  by_cases h0 : 0 < code.length
  · obtain ⟨g, cap, e, hB, hg, h1, h2, hb⟩ := ownR_form ho h0
    have hty := ownR_ty ho
    cases e
    have hty : tyB w g = some INST := hty g rfl
    by_cases hk : g = kb
    · subst hk
      refine ⟨⟨ps, ls, r', code.set n i4⟩, ⟨dp', dl', dr, ?_⟩, rfl, rfl, rfl, List.length_set .., fun e => ?_, fun _ => rfl⟩
      · have := readR_blk (c := inE) (cap := cc) (T.a code hb) (by rw [List.length_set]; exact h1) h2
        rw [List.length_set] at this
        exact this
      · rcases Nat.lt_or_ge n code.length with q | q
        · rw [e, ← T.o code hb q, List.set_getElem_self]
        · rw [List.set_eq_of_length_le q]
    · refine ⟨⟨ps, ls, r', code⟩, ⟨dp', dl', dr, ?_⟩, rfl, rfl, rfl, rfl, fun _ => rfl, fun e => ?_⟩
      · refine readR_kept dc (fun b hb' hl => ?_) T.s
        have e : b = g := by have e1 : some b = some g := hb'.symm; injection e1
        subst e
        refine T.k b hl hk (fun e => ?_)
        subst e; rw [T.tf] at hty; injection hty with hty; exact absurd hty (by decide)
      · have e : some (⟨g, 0, none⟩ : Addr) = some ⟨kb, 0, none⟩ := e
        injection e with e; injection e with e; exact absurd e hk
  · obtain rfl : code = [] := List.eq_nil_of_length_eq_zero (by omega)
    refine ⟨⟨ps, ls, r', []⟩, ⟨dp', dl', dr, ?_⟩, rfl, rfl, rfl, rfl, fun _ => rfl, fun _ => rfl⟩
    obtain ⟨a', c', e, q1, q2, q3, q4⟩ := dc
    cases e
    exact ⟨ca, cc, rfl, q1, q2, q3, fun hp => absurd hp (by simp)⟩
theorem turn_all {w w' : World} {B kb fb n : Nat} {i4 old : In4} (T : Turned w w' kb fb n i4 old) : ∀ {vs : List FnV} {fs : List FnM}, AllTB B w vs fs → ∃ fs', AllF w' vs fs' ∧ fs'.length = fs.length ∧ (i4 = old → fs' = fs) ∧ ∀ k (h : k < vs.length) (h1 : k < fs.length) (h2 : k < fs'.length), Became kb n i4 old vs[k] fs[k] fs'[k]
  | [], [], _ => ⟨[], trivial, rfl, fun _ => rfl, fun k h => absurd h (by simp)⟩
  | v :: vs, f :: fs, q => by
    obtain ⟨f', d1, d2⟩ := turn_one T q.1.1.1 q.1.1.2 q.1.2
    obtain ⟨fs', e1, e2, e3, e4⟩ := turn_all T q.2
    refine ⟨f' :: fs', ⟨d1, e1⟩, by simp [e2], fun e => by rw [d2.e e, e3 e], fun k h h1 h2 => ?_⟩
    cases k with
    | zero => exact d2
    | succ k => exact e4 k (by simpa using h) (by simpa using h1) (by simpa using h2)
  | [], _ :: _, q => q.elim
  | _ :: _, [], q => q.elim
theorem allF_set {w : World} {v : FnV} {f : FnM} (hd : DeepF w v f) : ∀ {vs : List FnV} {fs : List FnM} (j : Nat), AllF w vs fs → AllF w (vs.set j v) (fs.set j f)
  | [], [], _, _ => trivial
  | _ :: _, _ :: _, 0, q => ⟨hd, q.2⟩
  | _ :: _, _ :: _, j + 1, q => ⟨q.1, allF_set hd j q.2⟩
  | [], _ :: _, _, q => q.elim
  | _ :: _, [], _, q => q.elim
theorem same_prog {w w' : World} {B : Nat} {q : PrV} {C : PrM} {L : List FnV} (hu : q.u = C.u) (hm : q.m = C.m) (hg : ReadI w (.slice q.g.a q.g.n q.g.c) C.gl) (hsl : slOk w INTT q.g.a q.g.n) (all : AllTB B w L C.fs) (hs : SmallP C) {j n kb fb : Nat} (hj : j < L.length) (hj' : j < C.fs.length) (hqa : q.f.a = some ⟨fb, 0, none⟩) (hqn : q.f.n = L.length) (hqc : L.length ≤ q.f.c) (hqm : q.f.c ≤ maxLen) (hkb : L[j].c.a = some ⟨kb, 0, none⟩) (hn : n < C.fs[j].code.length) {i4 : In4} {kind : Int}
    (T : Turned w w' kb fb n i4 C.fs[j].code[n]) (hF : Blk w' fb (fnE.row (L.set j ⟨L[j].p, L[j].l, kind, L[j].c⟩))) :
    ∃ D, ReadP w' q D ∧ SmallP D ∧ (D = C ↔ (C.fs[j].code[n] = i4 ∧ C.fs[j].r = kind)) := by
  obtain ⟨fs', e1, e2, e3, e4⟩ := turn_all T all
  have hj2 : j < fs'.length := by omega
  have bj := e4 j hj hj' hj2
  have hcode := bj.c hkb
  have dj := allF_at e1 j hj hj2
  refine ⟨⟨C.u, C.gl, C.m, fs'.set j ⟨fs'[j].ps, fs'[j].ls, kind, fs'[j].code⟩⟩, ⟨hu, readR_I (readR_turn T (readI_R hg) hsl (by decide) (by decide)), hm, L.set j ⟨L[j].p, L[j].l, kind, L[j].c⟩, ?_, allF_set (v := ⟨L[j].p, L[j].l, kind, L[j].c⟩) (f := ⟨fs'[j].ps, fs'[j].ls, kind, fs'[j].code⟩) ⟨dj.p, dj.l, rfl, dj.c⟩ j e1⟩, ⟨hs.g, by show (fs'.set j _).length ≤ 17; rw [List.length_set, e2]; exact hs.f, fun f hf => ?_⟩, ?_⟩
  · have := readR_blk (c := fnE) (cap := q.f.c) hF (by rw [List.length_set]; exact hqc) hqm
    rw [List.length_set, ← hqn, ← hqa] at this
    exact this
  · have small : ∀ k (h : k < fs'.length), SmallF fs'[k] := fun k h => by
      have hl := allF_len e1
      have b := e4 k (by omega) (by omega) h
      have s := hs.a C.fs[k] (List.getElem_mem (by omega))
      exact ⟨by rw [b.p]; exact s.p, by rw [b.l]; exact s.l, by rw [b.len]; exact s.c⟩
    rcases List.mem_or_eq_of_mem_set (show f ∈ fs'.set j _ from hf) with z | rfl
    · obtain ⟨k, hk, rfl⟩ := List.getElem_of_mem z
      exact small k hk
    · exact ⟨(small j hj2).p, (small j hj2).l, (small j hj2).c⟩
  · constructor
    · intro h
      have hfs : fs'.set j ⟨fs'[j].ps, fs'[j].ls, kind, fs'[j].code⟩ = C.fs := congrArg PrM.fs h
      have hat : (fs'.set j ⟨fs'[j].ps, fs'[j].ls, kind, fs'[j].code⟩)[j]? = C.fs[j]? := by rw [hfs]
      rw [List.getElem?_set_self hj2, List.getElem?_eq_getElem hj'] at hat
      injection hat with hat
      have hr : kind = C.fs[j].r := (congrArg FnM.r hat :)
      have hc : fs'[j].code = C.fs[j].code := (congrArg FnM.code hat :)
      rw [hcode] at hc
      refine ⟨?_, hr.symm⟩
      have hz : (C.fs[j].code.set n i4)[n]? = C.fs[j].code[n]? := by rw [hc]
      rw [List.getElem?_set_self hn, List.getElem?_eq_getElem hn] at hz
      injection hz with hz
      exact hz.symm
    · rintro ⟨h1, h2⟩
      have h3 := e3 h1.symm
      subst h3
      have hfj : (⟨C.fs[j].ps, C.fs[j].ls, kind, C.fs[j].code⟩ : FnM) = C.fs[j] := by rw [← h2]
      show (⟨C.u, C.gl, C.m, C.fs.set j ⟨C.fs[j].ps, C.fs[j].ls, kind, C.fs[j].code⟩⟩ : PrM) = C
      rw [hfj, List.set_getElem_self]
end Go.Proofs.Ytdhkemnebppkhaa
