/- Layer 7: the document's Make goes through; what it makes is not asked. Conditions: those stated. -/
import Derived.Test.YtgbbnmjfkhconaaSla5
namespace Go.Proofs.Ytgbbnmjfkhconaa
open Go.RowKit
set_option linter.unusedVariables false
set_option linter.unusedSimpArgs false
attribute [local go_sem] over_cell over_frozen
variable {w w' w0 : World} {Z N : Nat}
def intE7 : Elt Int where
  cells := fun x => [.int .i64 x]
  size := 1
  pos := by decide
  len := fun _ => rfl
  one := fun r u hu => by
    simp only [List.mem_cons, List.not_mem_nil, or_false] at hu
    rw [hu]; rfl
theorem rowInt7 : IsRow Try.prog 118 3 1 8 (.int .i64 0) := ⟨Try.underlying118, by kernel_rfl, by rfl⟩
/-- The document's slab while it is made. -/
structure RSl (w0 w : World) (s : Nat) (key cl : Int) (N n : Nat) (g cap : Nat) (M : List Int) (sa : Option Addr) (sc : Nat) (K : List Int) (fst : Int) : Prop where
  hd : Blk w s [rowV g M cap, .int .u64 key, .int .i64 1, .int .i64 cl, .slice sa K.length sc, .int .i64 fst]
  rw : RowAt w g cap M
  len : M.length = 768
  gs : g ≠ s
  st : OwnR intE7 3 w w0.heap.size (.slice sa K.length sc) K
  kn : K.length = n
  ap : ∀ j, (Value.slice sa K.length sc).ownBlock = some j → j ≠ g ∧ j ≠ s
  f0 : -1 ≤ fst
  f1 : fst < N
  lo : w0.heap.size ≤ s
  be : Below w0.heap.size w0 w
def RSe (w0 w : World) (s : Nat) (key cl : Int) (N n : Nat) : Prop := ∃ g cap M sa sc K fst, RSl w0 w s key cl N n g cap M sa sc K fst
variable {s : Nat} {key cl : Int} {n : Nat} {g cap : Nat} {M : List Int} {sa : Option Addr} {sc : Nat} {K : List Int} {fst : Int}
theorem rsl_below (h : RSl w0 w s key cl N n g cap M sa sc K fst) (hb : Below w.heap.size w w') : RSl w0 w' s key cl N n g cap M sa sc K fst :=
  ⟨blk_below h.hd hb, row_below h.rw hb, h.len, h.gs, ownR_below h.st hb, h.kn, h.ap, h.f0, h.f1, h.lo, b_call h.be hb⟩
theorem rse_below (h : RSe w0 w s key cl N n) (hb : Below w.heap.size w w') : RSe w0 w' s key cl N n := by
  obtain ⟨g, cap, M, sa, sc, K, fst, h⟩ := h
  exact ⟨g, cap, M, sa, sc, K, fst, rsl_below h hb⟩
theorem rsl_cells (h : RSl w0 w s key cl N n g cap M sa sc K fst) : ((w.cell? ⟨s, 0, none⟩ = some (rowV g M cap) ∧ w.cell? ⟨s, 1, none⟩ = some (.int .u64 key)) ∧ (w.cell? ⟨s, 2, none⟩ = some (.int .i64 1) ∧ w.cell? ⟨s, 3, none⟩ = some (.int .i64 cl))) ∧ (w.cell? ⟨s, 4, none⟩ = some (.slice sa K.length sc) ∧ w.cell? ⟨s, 5, none⟩ = some (.int .i64 fst)) := by
  have z := h.hd.2.1
  exact ⟨⟨⟨by simpa using z 0 (by simp), by simpa using z 1 (by simp)⟩, by simpa using z 2 (by simp), by simpa using z 3 (by simp)⟩, by simpa using z 4 (by simp), by simpa using z 5 (by simp)⟩
theorem rse_fixed (h : RSe w0 w s key cl N n) : ((w.cell? ⟨s, 1, none⟩ = some (.int .u64 key) ∧ w.cell? ⟨s, 2, none⟩ = some (.int .i64 1)) ∧ w.cell? ⟨s, 3, none⟩ = some (.int .i64 cl)) ∧ s < w.heap.size := by
  obtain ⟨g, cap, M, sa, sc, K, fst, h⟩ := h
  obtain ⟨⟨⟨_, x1⟩, x2, x3⟩, _⟩ := rsl_cells h
  exact ⟨⟨⟨x1, x2⟩, x3⟩, h.hd.1⟩
set_option maxHeartbeats 1000000 in
theorem rbase7 (h : RSe w0 w s key cl N n) (hz : ClsOf cl Z N) (k : Nat) (hk : k < N) : Calls Try.prog 115 #[tp s, .int .i64 k] w fun e w' => e = .returned (.int .i64 (bsN 1 Z k : Nat)) ∧ Below w.heap.size w w' := by
  have HC : Hid (∀ w', Below w.heap.size w w' → w'.cell? ⟨s, 2, none⟩ = some (.int .i64 1) ∧ w'.cell? ⟨s, 3, none⟩ = some (.int .i64 cl)) := Lib.hid (fun w' hb => ⟨(rse_fixed (rse_below h hb)).1.1.2, (rse_fixed (rse_below h hb)).1.2⟩)
  have HZ := Lib.hid (fun w' => rsize_any cl w')
  rw [(cls_nums hz).1] at HZ
  have hin := cls_in hz hk
  have e1 : IntKind.i64.wrap ((Z : Int) * k) = ((Z * k : Nat) : Int) := by rw [IntKind.wrap_i64, ← Int.natCast_mul]; omega
  have e0 : IntKind.i64.wrap 256 = 256 := by rw [IntKind.wrap_i64]; rfl
  have e2 : IntKind.i64.wrap (256 + ((Z * k : Nat) : Int)) = ((bsN 1 Z k : Nat) : Int) := by rw [IntKind.wrap_i64]; unfold bsN; omega
  generalize Z * k = zk at *
  generalize bsN 1 Z k = a at *
  unfold tp at *
  clear h hz
  go_enter Try.func115, Try.ntmps115
  go_upto_region 1 with fail
  refine wp_region_held_drew (S := fun w' => w'.cell? ⟨s, 2, none⟩ = some (.int .i64 1) ∧ w'.cell? ⟨s, 3, none⟩ = some (.int .i64 cl)) (by kernel_rfl) (HC.out _ (b_drew (Below.refl _ _))) (fun hHeld => ?_)
  refine atI 0 ?_
  iterate 9 (refine takeN (v := ?_) rfl (by rfl) ?_ hHeld ?_; rotate_left; (focus (intro w hSw; (try dsimp only at hSw); go_simp; try (with_reducible rfl))); (try simp only [Act.put, Nat.reduceAdd, List.getElem_toArray, List.getElem_cons_succ, List.getElem_cons_zero, List.setIfInBounds_toArray, List.set_cons_zero, List.set_cons_succ]))
  refine atIo ?_
  (refine wpAnyH_take (i := 10) (v := ?_) rfl (by kernel_rfl) (by kernel_rfl) (by kernel_rfl) (fun _ _ _ h => h) (Or.inl ⟨by rfl, ?_⟩) hHeld ?_; rotate_left; (focus (intro w hSw; (try dsimp only at hSw); go_simp; try (with_reducible rfl))); (try simp only [Act.put, List.getElem_toArray, List.getElem_cons_succ, List.getElem_cons_zero, List.setIfInBounds_toArray, List.set_cons_zero, List.set_cons_succ]))
  refine wpAnyH_ready (rs := [9]) (by kernel_rfl) (by simp) (AllReadyH.cons rfl (fun K hK => ?_) AllReadyH.nil)
  go_simp
  refine (HZ.out _).mono ?_
  rintro e w1 ⟨rfl, rfl⟩
  refine hK.out _ _ (HC.out _ (b_drew (Below.refl _ _))) (fun hHeld => ?_)
  clear hK K
  (try simp only [Act.put, List.getElem_toArray, List.getElem_cons_succ, List.getElem_cons_zero, List.setIfInBounds_toArray, List.set_cons_zero, List.set_cons_succ])
  refine atI 11 ?_
  iterate 3 (refine takeN (v := ?_) rfl (by rfl) ?_ hHeld ?_; rotate_left; (focus (intro w hSw; (try dsimp only at hSw); go_simp; try (with_reducible rfl))); (try simp only [Act.put, Nat.reduceAdd, List.getElem_toArray, List.getElem_cons_succ, List.getElem_cons_zero, List.setIfInBounds_toArray, List.set_cons_zero, List.set_cons_succ]))
  refine atIo ?_
  refine wpAnyH_done (by kernel_rfl) ?_ _
  go_wp2_with fail
  go_ret
  exact ⟨rfl, b_drew (Below.refl _ _)⟩
set_option maxRecDepth 100000 in
set_option maxHeartbeats 1000000 in
theorem rput7 (h : RSe w0 w s key cl N n) (at_ : Nat) (u : Value) (X : List Int) (hu : ReadB w u X) (hX : X.length = 8) (hb : IsBytes X) (ha : at_ + 8 ≤ 768) : Calls Try.prog 116 #[tp s, .int .i64 at_, u] w fun e w' => e = .returned (.tuple #[]) ∧ RSe w0 w' s key cl N n := by
  obtain ⟨g, cap, M, sa, sc, K, fst, h⟩ := h
  obtain ⟨ua, uc, rfl⟩ := readB_len hu
  have hrd := readB_R (row_read h.rw)
  have hlen := h.len
  have c0 := (rsl_cells h).1.1.1
  have sz := h.hd.1
  have H := Lib.hid h
  have HU := Lib.hid hu
  have HXL := Lib.hid hX
  have HXB := Lib.hid hb
  have HA := Lib.hid ha
  have hML := Lib.hid hlen
  have n0 : (0 : Int) ≤ at_ := by omega
  have n1 : (at_ : Int) ≤ M.length := by omega
  unfold rowV at c0 hrd
  unfold tp at *
  clear h hu hX hb ha hlen
  go_enter Try.func116, Try.ntmps116
  go_upto_region 1 with (at_builtin; refine appendR (c := byE) rowByte rfl _ _ rfl w.heap.size _ [] rfl (own_emptyR (Nat.le_refl _)) _ M rfl (readR_below hrd (b_alloc (Below.refl _ _) _)) ?c1 ?c2 ?c3 ?_; (case c1 => (have := hML.out; simp; omega)); (case c2 => (have := hML.out; unfold maxLen; simp; omega)); (case c3 => (simp)); intro v1 w1 hown1 hg1)
  rw [List.nil_append] at hown1
  have HB1 : Hid (Below w.heap.size w w1) := b_ownR (b_alloc (Below.refl _ _) _) (own_emptyR (c := byE) (E := 5) (Nat.le_refl _)) hg1
  obtain ⟨g1, cap1, rfl, f1, f2, f3, f4, f5⟩ := ownR_form hown1 (by have := hML.out; omega)
  rw [row_byts] at f5
  have R1 : RowAt w1 g1 cap1 M := ⟨f5, f3, f4, H.out.rw.by_, H.out.rw.mx⟩
  have hcap1 := cap_le f4
  have HR1 := Lib.hid R1
  have HRU := Lib.hid (readB_below HU.out HB1.out)
  have hML2 := hML.out
  have HLE : Hid ((lay M at_ X).length = M.length) := Lib.hid (by rw [lay_length (by have := HXL.out; have := HA.out; omega)])
  have HRL := Lib.hid (show RowAt (w1.setCells g1 at_ (byts X)) g1 cap1 (lay M at_ X) from ⟨blkB_lay R1.rw (by have := HXL.out; have := HA.out; omega), by rw [HLE.out]; exact R1.le, f4, isBytes_lay R1.by_ HXB.out at_, by rw [HLE.out]; exact R1.mx⟩)
  have HBL : Hid (Below w.heap.size w (w1.setCells g1 at_ (byts X))) := b_grown HB1.out (gb_sets _ _ (gb_refl _ _)) f1
  have k2 : (at_ : Int) ≤ cap1 := by omega
  have k3 : at_ < cap1 := by have := HA.out; omega
  have HG1 : Hid (w.heap.size ≤ g1) := Lib.hid f1
  have HF : Hid (∀ w2, w2 = w1.setCells g1 at_ (byts X) → RSe w0 (w2.setCell ⟨s, 0, none⟩ (.slice (some ⟨g1, 0, none⟩) M.length cap1)) s key cl N n) := Lib.hid (fun w2 e2 => by
    subst e2
    have h2 := rsl_below H.out HBL.out
    have hgs : w.heap.size ≤ g1 := f1
    have hss := H.out.hd.1
    have hst := ownR_lt H.out.st
    have hgb : (w1.setCells g1 at_ (byts X)).grownBy ((w1.setCells g1 at_ (byts X)).setCell ⟨s, 0, none⟩ (.slice (some ⟨g1, 0, none⟩) M.length cap1)) (some s) := gb_set (gb_refl _ (some s)) 0 none _
    refine ⟨g1, cap1, lay M at_ X, sa, sc, K, fst, ⟨?_, ?_, by rw [HLE.out]; exact hML.out, by omega, ?_, h2.kn, fun j hj => ⟨by have := (hst j hj).2; omega, (H.out.ap j hj).2⟩, h2.f0, h2.f1, h2.lo, ?_⟩⟩
    · have z := blk_set h2.hd 0 (.slice (some ⟨g1, 0, none⟩) M.length cap1)
      unfold rowV
      rw [HLE.out]
      exact z
    · exact row_grown HRL.out hgb (fun e => by injection e with e; omega)
    · exact ownR_gx h2.st (gx_gb hgb (X := fun j => j = s) (fun j hj => by injection hj with hj; exact hj.symm)) (fun j hj e => (H.out.ap j hj).2 e)
    · exact b_set h2.be (p := ⟨s, 0, none⟩) h2.lo _)
  have HFR : Hid (∀ i, (w1.setCells g1 at_ (byts X)).frozen? ⟨s, i, none⟩ = false) := Lib.hid (blk_below H.out.hd HBL.out).2.2
  have HSZ : Hid (s < (w1.setCells g1 at_ (byts X)).heap.size) := Lib.hid (blk_below H.out.hd HBL.out).1
  have HCE : Hid ((w1.setCells g1 at_ (byts X)).cell? ⟨s, 0, none⟩ = some (.slice (some ⟨g, 0, none⟩) M.length cap)) := Lib.hid (by
    have z := (rsl_cells (rsl_below H.out HBL.out)).1.1.1
    unfold rowV at z
    exact z)
  clear hown1 hg1 f5 R1 hrd c0 sz hML2 f1 f2 f3 f4
  go_upto_region 2 with (refine copyB rfl _ _ _ _ 5 rfl under_byts szByte g1 at_ (M.length - at_) (cap1 - at_) _ M X _ rfl (fun h => rfl) (by have := HXL.out; have := HA.out; have := hML.out; omega) rfl HRU.out HR1.out.rw (by have := HXL.out; have := HA.out; have := hML.out; omega) ?_)
  refine wp_named ?_
  intro w2 hw2
  have HF2 := Lib.hid (HF.out w2 hw2)
  have cf := HFR.out
  have cz := HSZ.out
  have ce := HCE.out
  rw [← hw2] at cf cz ce
  clear hw2
  go_wp2_with fail
  exact bodyPost_end (v := .tuple #[]) (by simp [results, Try.results116, go_sem]) rfl ⟨rfl, HF2.out⟩
set_option maxHeartbeats 4000000 in
theorem rjoin7 (h : RSe w0 w s key cl N n) (hz : ClsOf cl Z N) (k0 : 0 ≤ key) (k1 : key < 18446744073709551616) (k : Nat) (hk : k < N) : Calls Try.prog 107 #[tp s, .int .i64 k] w fun e w' => e = .returned (.tuple #[]) ∧ RSe w0 w' s key cl N n := by
  have HBk := Lib.hid (fun w' (hs : RSe w0 w' s key cl N n) => rbase7 hs hz k hk)
  have HBf := Lib.hid (fun w' (f : Nat) (hs : RSe w0 w' s key cl N n) (hf : f < N) => rbase7 hs hz f hf)
  have HPt := Lib.hid (fun w' u X (hs : RSe w0 w' s key cl N n) (hu : ReadB w' u X) (hX : X.length = 8) (hb : IsBytes X) => rput7 hs (bsN 1 Z k) u X hu hX hb (by have := cls_in hz hk; have := cls_bd hz; unfold bsN; omega))
  have HLP := Lib.hid (fun nx w' (h1 : -1 ≤ nx) (h2 : nx ≤ 65536) => rput_any key ((bsN 1 Z k : Nat) : Int) nx k0 k1 (by omega) (by have := cls_in hz hk; unfold bsN; omega) (by omega) (by omega) w')
  have HBD : Hid (∀ f, f < N → bsN 1 Z f ≤ 65536) := Lib.hid (fun f hf => by have := cls_in hz hf; unfold bsN; omega)
  have HPB := Lib.hid (fun a n => putI_bd key a n)
  have H := Lib.hid h
  have HCF : Hid (∀ w', RSe w0 w' s key cl N n → ((w'.cell? ⟨s, 1, none⟩ = some (.int .u64 key)) ∧ s < w'.heap.size)) := Lib.hid (fun w' hs => ⟨(rse_fixed hs).1.1.1, (rse_fixed hs).2⟩)
  have hkN : (k : Int) < N := by omega
  have HFS : Hid (∀ w', RSe w0 w' s key cl N n → (∀ i, w'.frozen? ⟨s, i, none⟩ = false) ∧ s < w'.heap.size ∧ (∃ u, w'.cell? ⟨s, 5, none⟩ = some (.int .i64 u)) ∧ RSe w0 (w'.setCell ⟨s, 5, none⟩ (.int .i64 k)) s key cl N n) := Lib.hid (fun w' hs => by
    obtain ⟨g, cap, M, sa, sc, K, fst, h⟩ := hs
    have hgb : w'.grownBy (w'.setCell ⟨s, 5, none⟩ (.int .i64 k)) (some s) := gb_set (gb_refl _ (some s)) 5 none _
    exact ⟨h.hd.2.2, h.hd.1, ⟨fst, (rsl_cells h).2.2⟩, g, cap, M, sa, sc, K, k, ⟨blk_set h.hd 5 (.int .i64 k), row_grown h.rw hgb (fun e => h.gs (by injection e)), h.len, h.gs, ownR_gx h.st (gx_gb hgb (X := fun j => j = s) (fun j hj => by injection hj with hj; exact hj.symm)) (fun j hj e => (h.ap j hj).2 e), h.kn, h.ap, by omega, hkN, h.lo, b_set h.be (p := ⟨s, 5, none⟩) h.lo _⟩⟩)
  obtain ⟨fst, hf5, hf0, hf1⟩ : ∃ fst, w.cell? ⟨s, 5, none⟩ = some (.int .i64 fst) ∧ -1 ≤ fst ∧ fst < N := by
    obtain ⟨g, cap, M, sa, sc, K, fst, h⟩ := h
    exact ⟨fst, (rsl_cells h).2.2, h.f0, h.f1⟩
  have sz := (rse_fixed h).2
  generalize bsN 1 Z k = a at *
  unfold tp at *
  clear h hz k0 k1
  go_enter Try.func107, Try.ntmps107
  go_upto_if 9 with fail
  go_cut [4] (fun x wx => ∃ nx : Int, x = .int .i64 nx ∧ -1 ≤ nx ∧ nx ≤ 65536 ∧ Hid (RSe w0 wx s key cl N n))
  case first =>
    by_cases hq : fst ≥ 0
    · obtain ⟨f, rfl⟩ : ∃ f : Nat, fst = f := ⟨fst.toNat, by omega⟩
      have HBF := Lib.hid (HBf.out w f H.out (by omega))
      have hbd := HBD.out f (by omega)
      generalize bsN 1 Z f = c at *
      go_wp2_with fail
      refine HBF.out.mono ?_
      rintro e w1 ⟨rfl, hb1⟩
      have H1 := Lib.hid (rse_below H.out hb1)
      clear hb1
      go_wp2_with fail
      go_meet
      case rel => exact ⟨c, rfl, by omega, by omega, H1⟩
    · go_wp2_with fail
      go_meet
      case rel => exact ⟨-1, rfl, by omega, by omega, H⟩
  case rest =>
  obtain ⟨nx, rfl, x0, x1, H1⟩ := hcut
  obtain ⟨W1, hW1⟩ : ∃ x, x = wc := ⟨_, rfl⟩
  subst hW1
  clear hf5 sz
  have HLN := Lib.hid (fun w' => HLP.out nx w' x0 x1)
  obtain ⟨pb0, pb1⟩ := HPB.out (a : Int) nx
  generalize putI key (a : Int) nx = pv at *
  go_upto_region 3 with fail
  refine wp_region_F (S := fun w' => w'.cell? ⟨s, 1, none⟩ = some (.int .u64 key)) [14] (by kernel_rfl) (HCF.out _ (rse_below H1.out (b_drew (Below.refl _ _)))).1 (fun hHeld => ?_)
  (refine wpAnyF_takeP (i := 0) (v := ?_) rfl (by kernel_rfl) (by kernel_rfl) (by kernel_rfl) (fun _ _ _ h => h) (Or.inl ⟨by rfl, ?_⟩) ?_; rotate_left; (focus (intro w hSw; (try dsimp only at hSw); go_simp; try (with_reducible rfl))); (try simp only [Act.put, List.getElem_toArray, List.getElem_cons_succ, List.getElem_cons_zero, List.setIfInBounds_toArray, List.set_cons_zero, List.set_cons_succ]))
  (refine wpAnyF_takeP (i := 1) (v := ?_) rfl (by kernel_rfl) (by kernel_rfl) (by kernel_rfl) (fun _ _ _ h => h) (Or.inl ⟨by rfl, ?_⟩) ?_; rotate_left; (focus (intro w hSw; (try dsimp only at hSw); go_simp; try (with_reducible rfl))); (try simp only [Act.put, List.getElem_toArray, List.getElem_cons_succ, List.getElem_cons_zero, List.setIfInBounds_toArray, List.set_cons_zero, List.set_cons_succ]))
  (refine wpAnyF_takeP (i := 2) (v := ?_) rfl (by kernel_rfl) (by kernel_rfl) (by kernel_rfl) (fun _ _ _ h => h) (Or.inl ⟨by rfl, ?_⟩) ?_; rotate_left; (focus (intro w hSw; (try dsimp only at hSw); go_simp; try (with_reducible rfl))); (try simp only [Act.put, List.getElem_toArray, List.getElem_cons_succ, List.getElem_cons_zero, List.setIfInBounds_toArray, List.set_cons_zero, List.set_cons_succ]))
  (refine wpAnyF_takeP (i := 4) (v := ?_) rfl (by kernel_rfl) (by kernel_rfl) (by kernel_rfl) (fun _ _ _ h => h) (Or.inl ⟨by rfl, ?_⟩) ?_; rotate_left; (focus (intro w hSw; (try dsimp only at hSw); go_simp; try (with_reducible rfl))); (try simp only [Act.put, List.getElem_toArray, List.getElem_cons_succ, List.getElem_cons_zero, List.setIfInBounds_toArray, List.set_cons_zero, List.set_cons_succ]))
  (refine wpAnyF_take (n := 40) (i := 5) (v := ?_) rfl (by kernel_rfl) (by kernel_rfl) (by kernel_rfl) (by kernel_rfl) (by kernel_rfl) (fun _ _ _ h => h) (Or.inl ⟨by rfl, ?_⟩) hHeld ?_; rotate_left; (focus (intro w hSw; (try dsimp only at hSw); go_simp; try (with_reducible rfl))); (try simp only [Act.put, List.getElem_toArray, List.getElem_cons_succ, List.getElem_cons_zero, List.setIfInBounds_toArray, List.set_cons_zero, List.set_cons_succ]))
  (refine wpAnyF_take (n := 40) (i := 6) (v := ?_) rfl (by kernel_rfl) (by kernel_rfl) (by kernel_rfl) (by kernel_rfl) (by kernel_rfl) (fun _ _ _ h => h) (Or.inl ⟨by rfl, ?_⟩) hHeld ?_; rotate_left; (focus (intro w hSw; (try dsimp only at hSw); go_simp; try (with_reducible rfl))); (try simp only [Act.put, List.getElem_toArray, List.getElem_cons_succ, List.getElem_cons_zero, List.setIfInBounds_toArray, List.set_cons_zero, List.set_cons_succ]))
  (refine wpAnyF_take (n := 40) (i := 7) (v := ?_) rfl (by kernel_rfl) (by kernel_rfl) (by kernel_rfl) (by kernel_rfl) (by kernel_rfl) (fun _ _ _ h => h) (Or.inl ⟨by rfl, ?_⟩) hHeld ?_; rotate_left; (focus (intro w hSw; (try dsimp only at hSw); go_simp; try (with_reducible rfl))); (try simp only [Act.put, List.getElem_toArray, List.getElem_cons_succ, List.getElem_cons_zero, List.setIfInBounds_toArray, List.set_cons_zero, List.set_cons_succ]))
  (refine wpAnyF_takeP (i := 8) (v := ?_) rfl (by kernel_rfl) (by kernel_rfl) (by kernel_rfl) (fun _ _ _ h => h) (Or.inl ⟨by rfl, ?_⟩) ?_; rotate_left; (focus (intro w hSw; (try dsimp only at hSw); go_simp; try (with_reducible rfl))); (try simp only [Act.put, List.getElem_toArray, List.getElem_cons_succ, List.getElem_cons_zero, List.setIfInBounds_toArray, List.set_cons_zero, List.set_cons_succ]))
  (refine wpAnyF_takeP (i := 9) (v := ?_) rfl (by kernel_rfl) (by kernel_rfl) (by kernel_rfl) (fun _ _ _ h => h) (Or.inl ⟨by rfl, ?_⟩) ?_; rotate_left; (focus (intro w hSw; (try dsimp only at hSw); go_simp; try (with_reducible rfl))); (try simp only [Act.put, List.getElem_toArray, List.getElem_cons_succ, List.getElem_cons_zero, List.setIfInBounds_toArray, List.set_cons_zero, List.set_cons_succ]))
  (refine wpAnyF_takeP (i := 11) (v := ?_) rfl (by kernel_rfl) (by kernel_rfl) (by kernel_rfl) (fun _ _ _ h => h) (Or.inl ⟨by rfl, ?_⟩) ?_; rotate_left; (focus (intro w hSw; (try dsimp only at hSw); go_simp; try (with_reducible rfl))); (try simp only [Act.put, List.getElem_toArray, List.getElem_cons_succ, List.getElem_cons_zero, List.setIfInBounds_toArray, List.set_cons_zero, List.set_cons_succ]))
  refine wpAnyF_ready (rs := [3]) (by kernel_rfl) (by simp) (AllReadyF.cons rfl (fun K hK => ?_) AllReadyF.nil)
  go_simp
  have H2 := Lib.hid (rse_below H1.out (b_drew (Below.refl W1.heap.size W1)))
  refine (HBk.out _ H2.out).mono ?_
  rintro e w3 ⟨rfl, hb3⟩
  have H3 := Lib.hid (rse_below H2.out hb3)
  clear hb3
  refine hK.out _ _ ((HCF.out _ H3.out).1) (fun hHeld => ?_)
  clear hK K
  (try simp only [Act.put, List.getElem_toArray, List.getElem_cons_succ, List.getElem_cons_zero, List.setIfInBounds_toArray, List.set_cons_zero, List.set_cons_succ])
  refine wpAnyF_ready (rs := [10]) (by kernel_rfl) (by simp) (AllReadyF.cons rfl (fun K hK => ?_) AllReadyF.nil)
  go_simp
  refine (HBk.out _ H3.out).mono ?_
  rintro e w4 ⟨rfl, hb4⟩
  have H4 := Lib.hid (rse_below H3.out hb4)
  clear hb4
  refine hK.out _ _ ((HCF.out _ H4.out).1) (fun hHeld => ?_)
  clear hK K
  (try simp only [Act.put, List.getElem_toArray, List.getElem_cons_succ, List.getElem_cons_zero, List.setIfInBounds_toArray, List.set_cons_zero, List.set_cons_succ])
  refine wpAnyF_ready (rs := [12]) (by kernel_rfl) (by simp) (AllReadyF.cons rfl (fun K hK => ?_) AllReadyF.nil)
  go_simp
  refine (HLN.out _).mono ?_
  rintro e w5 ⟨rfl, hb5⟩
  have H5 := Lib.hid (rse_below H4.out hb5)
  clear hb5
  refine hK.out _ _ ((HCF.out _ H5.out).1) (fun hHeld => ?_)
  clear hK K
  (try simp only [Act.put, List.getElem_toArray, List.getElem_cons_succ, List.getElem_cons_zero, List.setIfInBounds_toArray, List.set_cons_zero, List.set_cons_succ])
  refine wpAnyF_ready (rs := [13]) (by kernel_rfl) (by simp) (AllReadyF.cons rfl (fun K hK => ?_) AllReadyF.nil)
  go_simp
  refine (rnput_any 8 pv _ (by decide) pb0 pb1).mono ?_
  rintro e w6 ⟨v6, rfl, own6, hb6⟩
  have H6 := Lib.hid (rse_below H5.out hb6)
  have HO6 := Lib.hid (ownB_read own6)
  clear hb6 own6
  refine hK.out _ _ ((HCF.out _ H6.out).1) (fun hHeld => ?_)
  clear hK K
  (try simp only [Act.put, List.getElem_toArray, List.getElem_cons_succ, List.getElem_cons_zero, List.setIfInBounds_toArray, List.set_cons_zero, List.set_cons_succ])
  refine wpAnyF_ready (rs := [14]) (by kernel_rfl) (by simp) (AllReadyF.free rfl (by decide) (fun K hK => ?_) AllReadyF.nil)
  go_simp
  refine (HPt.out _ v6 (putL 8 pv) H6.out HO6.out (putL_len8 _) (isBytes_putL _ _)).mono ?_
  rintro e w7 ⟨rfl, h7⟩
  have H7 := Lib.hid h7
  clear h7
  refine hK.out _ _ (trivial) (fun hHeld => ?_)
  clear hK K
  (try simp only [Act.put, List.getElem_toArray, List.getElem_cons_succ, List.getElem_cons_zero, List.setIfInBounds_toArray, List.set_cons_zero, List.set_cons_succ])
  refine wpAnyF_done (by kernel_rfl) ?_
  obtain ⟨cf, cz, ⟨u7, c5⟩, h8⟩ := HFS.out _ H7.out
  have H8 := Lib.hid h8
  clear h8
  go_wp2_with fail
  exact bodyPost_end (v := .tuple #[]) (by simp [results, Try.results107, go_sem]) rfl ⟨rfl, H8.out⟩
set_option maxHeartbeats 4000000 in
theorem rmake7 {g cap : Nat} {M : List Int} (hr : RowAt w g cap M) (hM : M.length = 768) (hz : ClsOf cl Z N) (k0 : 0 ≤ key) (k1 : key < 18446744073709551616) : Calls Try.prog 86 #[rowV g M cap, .int .u64 key, .int .i64 1, .int .i64 cl] w fun e w' => ∃ s, e = .returned (tp s) ∧ Below w.heap.size w w' := by
  have HJ := Lib.hid (fun w' s n k (hs : RSe w w' s key cl N n) (hk : k < N) => rjoin7 hs hz k0 k1 k hk)
  have HSL := Lib.hid (fun w' => rslots_any cl w')
  rw [(cls_nums hz).2.1] at HSL
  obtain ⟨_, _, n2, n16, _⟩ := cls_bd hz
  have HR := Lib.hid hr
  have HM := Lib.hid hM
  have HX : Hid (∀ W, W = w.alloc (.cells #[.slice (some ⟨g, 0, none⟩) M.length cap, .int .u64 key, .int .i64 1, .int .i64 cl, .slice none 0 0, .int .i64 (-1)] 153) → RSe w W w.heap.size key cl N 0) := Lib.hid (fun W hW => by
    subst hW
    have hb : Below w.heap.size w (w.alloc (.cells #[.slice (some ⟨g, 0, none⟩) M.length cap, .int .u64 key, .int .i64 1, .int .i64 cl, .slice none 0 0, .int .i64 (-1)] 153)) := b_alloc (Below.refl _ _) _
    have hg := hr.rw.1
    refine ⟨g, cap, M, none, 0, [], -1, ⟨?_, row_below hr hb, hM, by omega, ownR_nil _ _, rfl, (fun j hj => by cases hj), by omega, by omega, Nat.le_refl _, hb⟩⟩
    have z := blk_new w #[.slice (some ⟨g, 0, none⟩) M.length cap, .int .u64 key, .int .i64 1, .int .i64 cl, .slice none 0 0, .int .i64 (-1)] 153
    unfold rowV
    exact z)
  have nN2 : (N : Int) ≤ 16 := by omega
  have nN3 : (2 : Int) ≤ N := by omega
  unfold rowV
  unfold tp at *
  clear hr hM hz k0 k1
  go_enter Try.func86, Try.ntmps86
  go_upto_region 2 with fail
  refine wp_named ?_
  intro W1 hW1
  have H1 := Lib.hid (HX.out W1 hW1)
  clear hW1 HX
  go_wp2_with fail
  refine (HSL.out _).mono ?_
  rintro e w1 ⟨rfl, rfl⟩
  go_wp2_with fail
  go_loopw [10] (fun kv wr => ∃ j n : Nat, j ≤ N ∧ n + j = N ∧ kv = .int .i64 (j - 1 : Int) ∧ Hid (RSe w wr w.heap.size key cl N n)) (fun kv _ => (intOf kv + 1).toNat)
  case atStart => exact ⟨N, 0, Nat.le_refl _, by omega, rfl, H1⟩
  case round =>
    clear H1
    obtain ⟨W2, hW2⟩ : ∃ x, x = wr := ⟨_, rfl⟩
    subst hW2
    obtain ⟨j, n, hj, hnj, rfl, HS⟩ := hrel
    have HNJ := Lib.hid hnj
    have hn16 : n ≤ 16 := by omega
    clear hnj
    cases j with
    | zero =>
      have e0 : ((0 : Nat) : Int) - 1 = -1 := rfl
      rw [e0]
      go_wp2_with fail
      go_ret
      exact ⟨_, rfl, by obtain ⟨_, _, _, _, _, _, _, z⟩ := HS.out; exact z.be⟩
    | succ j =>
      have e0 : ((j + 1 : Nat) : Int) - 1 = (j : Int) := by omega
      rw [e0]
      have j0 : (0 : Int) ≤ j := by omega
      obtain ⟨g, cap, M, sa, sc, K, fst, hs⟩ := HS.out
      have c4 := (rsl_cells hs).2.1
      have cz := hs.hd.1
      have cf := hs.hd.2.2
      have HH := Lib.hid hs
      have HST := Lib.hid hs.st
      have hKn : K.length ≤ 16 := by rw [hs.kn]; exact hn16
      clear hs HS e0
      go_upto_region 6 with (at_builtin; refine append1 (c := intE7) rowInt7 (by rfl) _ _ (by rfl) (by rfl) (v := .slice sa K.length sc) (L := K) (B := w.heap.size) (ownR_alloc HST.out _) (0 : Int) _ 1 (by rfl) (blk_new _ _ _) ?c1 ?c2 ?c3 ?_; (case c1 => (omega)); (case c2 => (unfold maxLen; omega)); (case c3 => (have := HH.out.be.size; simp; omega)); intro g9 cap9 w9 ho9 hg9 hor9 hl9; have hbk9 := blk_grown (blk_alloc HH.out.hd _) hg9 (fun e => (HH.out.ap _ e.symm).2 rfl); have cf9 := hbk9.2.2; have cz9 := hbk9.1; have c49 := hbk9.2.1 4 (by simp); (simp only [List.getElem_cons_succ, List.getElem_cons_zero] at c49); have HO9 := Lib.hid ho9; have HG9 := Lib.hid hg9; have HR9 := Lib.hid hor9; have HBK9 := Lib.hid hbk9; clear ho9 hg9 hor9 hl9 hbk9)
      refine wp_named ?_
      intro W3 hW3
      have HS3 : Hid (RSe w W3 w.heap.size key cl N (n + 1)) := Lib.hid (by
        have hss := HH.out.hd.1
        have hgg := HH.out.rw.rw.1
        have hgs := HH.out.gs
        have hne : ∀ x, x = w.heap.size ∨ x = g → some x ≠ (Value.slice sa K.length sc).ownBlock := fun x hx e => by
          have z := HH.out.ap x e.symm
          rcases hx with q | q
          · exact z.2 q
          · exact z.1 q
        have hg9 : g9 ≠ w.heap.size ∧ g9 ≠ g := by
          rcases HR9.out with q | q
          · exact ⟨(HH.out.ap _ q).2, (HH.out.ap _ q).1⟩
          · rw [World.size_alloc] at q; omega
        have hgb : w9.grownBy W3 (some w.heap.size) := by rw [hW3]; exact gb_set (gb_refl _ _) 4 none _
        have hr9 : RowAt w9 g cap M := row_grown (row_below HH.out.rw (b_alloc (Below.refl _ _) _)) HG9.out (hne g (Or.inr rfl))
        refine ⟨g, cap, M, some ⟨g9, 0, none⟩, cap9, K ++ [0], fst, ⟨?_, row_grown hr9 hgb (fun e => hgs (by injection e)), HH.out.len, hgs, ?_, ?_, fun j hj => ?_, HH.out.f0, HH.out.f1, Nat.le_refl _, ?_⟩⟩
        · rw [hW3, List.length_append]
          exact blk_set HBK9.out 4 _
        · rw [List.length_append]
          exact ownR_gx HO9.out (gx_gb hgb (X := fun j => j = w.heap.size) (fun j hj => by injection hj with hj; exact hj.symm)) (fun j hj e => by
            have e9 : g9 = j := by simpa [Value.ownBlock] using hj
            exact hg9.1 (e9.trans e))
        · rw [List.length_append, HH.out.kn]; rfl
        · have e9 : g9 = j := by simpa [Value.ownBlock] using hj
          rw [← e9]; exact ⟨hg9.2, hg9.1⟩
        · have hb9 : Below w.heap.size w w9 := b_ownR (b_alloc HH.out.be _) (ownR_alloc HST.out _) HG9.out
          rw [hW3]
          exact b_set hb9 (p := ⟨w.heap.size, 4, none⟩) (Nat.le_refl _) _)
      clear hW3 c4 c49 cf cf9 cz cz9
      have HJ3 := Lib.hid (HJ.out W3 w.heap.size (n + 1) j HS3.out (by omega))
      go_wp2_with fail
      refine HJ3.out.mono ?_
      rintro e w5 ⟨rfl, hs5⟩
      have HS5 := Lib.hid hs5
      clear hs5
      go_wp2_with fail
      go_roundw
      case rel => exact ⟨j, n + 1, by omega, by have := HNJ.out; omega, by first | rfl | go_num, HS5⟩
      case measure => simp [intOf] <;> omega
end Go.Proofs.Ytgbbnmjfkhconaa
