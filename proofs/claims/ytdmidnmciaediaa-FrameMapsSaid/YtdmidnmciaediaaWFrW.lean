/- Layer 28: the contract of the document's Call. Conditions: those stated. -/
import Derived.Test.YtdmidnmciaediaaWFrV
import Derived.BigQuiet
namespace Go.Proofs.Ytdmidnmciaediaa
open Go.RowKit
set_option linter.unusedVariables false
set_option linter.unusedSimpArgs false
attribute [local go_sem] over_cell over_frozen
variable {w0 w w' : World} {r : Nat} {q : PrV} {lv : Sl} {L : List FrM} {m : FrM}
def FNT : TypeId := 35
structure CallS (w wr : World) (G : List Value) (X : Nat) (f : Int) (M : List ValM) (a : Option Addr) (n c : Nat) : Prop where
  b : Below w.heap.size w wr
  g : Blk wr w.heap.size G
  tg : tyB wr w.heap.size = some FNT
  x : Blk wr X [.int .i64 f, .int .i64 0, .slice a n c, .slice none 0 0]
  t : tyB wr X = some RFT
  o : OwnR valE VRT wr w.heap.size (.slice a n c) M
theorem callS_below {wr w2 : World} {G : List Value} {X : Nat} {f : Int} {M : List ValM} {a : Option Addr} {n c : Nat} (h : CallS w wr G X f M a n c) (hb : Below wr.heap.size wr w2) : CallS w w2 G X f M a n c := ⟨b_call h.b hb, blk_below h.g hb, tyB_call h.tg hb, blk_below h.x hb, tyB_call h.t hb, ownR_below h.o hb⟩
theorem callS_app {wr w2 w9 : World} {G : List Value} {X : Nat} {f : Int} {M : List ValM} {a : Option Addr} {n c g cap : Nat} {y : ValM} (h : CallS w wr G X f M a n c) (hX : w.heap.size < X) (hb : Below wr.heap.size wr w2) (ho : OwnR valE VRT w9 w.heap.size (.slice (some ⟨g, 0, none⟩) (M.length + 1) cap) (M ++ [y])) (hg : w2.grownBy w9 (Value.slice a n c).ownBlock) : Blk w9 X [.int .i64 f, .int .i64 0, .slice a n c, .slice none 0 0] ∧ CallS w (w9.setCell ⟨X, 2, none⟩ (.slice (some ⟨g, 0, none⟩) (M.length + 1) cap)) G X f (M ++ [y]) (some ⟨g, 0, none⟩) (M.length + 1) cap := by
  have h2 := callS_below h hb
  have hne : some X ≠ (Value.slice a n c).ownBlock := fun e => ownR_ne h2.o h2.t (by decide) X e.symm rfl
  have hnG : some w.heap.size ≠ (Value.slice a n c).ownBlock := fun e => ownR_ne h2.o h2.tg (by decide) _ e.symm rfl
  have hx := blk_grown h2.x hg hne
  have ht := tyB_grown h2.t hg hne
  exact ⟨hx, b_set (b_ownR h2.b h2.o hg) (p := ⟨X, 2, none⟩) (Nat.le_of_lt hX) _, blk_other (blk_grown h2.g hg hnG) (by show X ≠ w.heap.size; omega) _, by rw [tyB_set]; exact tyB_grown h2.tg hg hnG, blk_set hx 2 _, by rw [tyB_set]; exact ht, ownsRow_setCell_other ho (a := ⟨X, 2, none⟩) (fun e => ownR_ne ho ht (by decide) X e rfl) _⟩
theorem readI_len9 {w : World} {a : Option Addr} {n c : Nat} {xs : List Int} (h : ReadI w (.slice a n c) xs) : ∃ (_ : Unit) (cap : Nat), n = xs.length ∧ xs.length ≤ c ∧ (c : Int) ≤ 9223372036854775807 := by
  obtain ⟨a1, cap, e, h1, h2⟩ := readR_len (readI_R h)
  injection e with _ e2 e3
  have := cap_le h2
  exact ⟨(), cap, e2, by omega, by omega⟩
theorem rcall_out {P : PrM} (h : DocF w0 w r q lv L) (hP : ReadP w0 q P) (f : Int) (v : Value) (hf : ¬ (0 ≤ f ∧ f < P.fs.length)) : Calls Try.prog 65 #[rp r, .int .i64 f, v] w fun e w' => e = .returned (.int .i64 1) ∧ w = w' := by
  obtain ⟨fl1, fl2, fl3⟩ := fns_len hP
  have fl4 := cap_le fl3
  have HBE := Lib.hid h.be
  have b3 := h.hd.2.1 3 (by simp)
  simp only [List.getElem_cons_succ, List.getElem_cons_zero] at b3
  rw [fl1] at b3
  have bz := h.hd.1
  unfold rp
  clear h hP fl1 fl2 fl3
  rcases (show f < 0 ∨ (0 ≤ f ∧ (P.fs.length : Int) ≤ f) by omega) with q1 | ⟨q1, q2⟩
  · clear hf
    go_enter Try.func65, Try.ntmps65
    go_wp2_with fail
    go_ret
    exact ⟨rfl, rfl⟩
  · clear hf
    have q3 : ¬ (f < 0) := by omega
    go_enter Try.func65, Try.ntmps65
    go_wp2_with fail
    go_ret
    exact ⟨rfl, rfl⟩
set_option maxHeartbeats 1000000 in
theorem rcall_len {P : PrM} (h : DocF w0 w r q lv L) (hP : ReadP w0 q P) (k : Nat) (hk : k < P.fs.length) {a : Option Addr} {n c : Nat} (hn : n ≠ P.fs[k].ps.length) : Calls Try.prog 65 #[rp r, .int .i64 k, .slice a n c] w fun e w' => e = .returned (.int .i64 1) ∧ w = w' := by
  obtain ⟨fl1, fl2, fl3⟩ := fns_len hP
  have fl4 := cap_le fl3
  have HBE := Lib.hid h.be
  have b3 := h.hd.2.1 3 (by simp)
  simp only [List.getElem_cons_succ, List.getElem_cons_zero] at b3
  rw [fl1] at b3
  have bz := h.hd.1
  obtain ⟨pb, po, epa, pv, plv, cv, hfn⟩ := fns_at hP hk
  have hfw := fnAt_below hfn h.be
  rw [epa] at b3
  obtain ⟨_, pcap, epv, hp1, hp2⟩ := readI_len9 hfw.rp
  have f0 := hfw.p
  have f1 := hfw.l
  rw [epv] at f0
  have fz := hfw.lt
  have k0 : (0 : Int) ≤ k := by omega
  have k1 : (k : Int) < P.fs.length := by omega
  have kc : (k : Int) < q.f.c := by omega
  have kn : ¬ ((k : Int) < 0) := by omega
  have kn2 : ¬ ((P.fs.length : Int) ≤ k) := by omega
  have hne : ((n : Int) != P.fs[k].ps.length) = true := bne_iff_ne.2 (by omega)
  unfold rp
  clear h hP fl1 fl2 fl3 epa hfn hfw epv hp1 hp2 hn
  generalize P.fs[k].ps.length = N at *
  go_enter Try.func65, Try.ntmps65
  go_wp2_with fail
  go_ret
  exact ⟨rfl, rfl⟩
theorem fnF_at {p : PrV} {P : PrM} (h : ReadP w p P) {k : Nat} (hk : k < P.fs.length) : ∃ b o, p.f.a = some ⟨b, o, none⟩ ∧ b < w.heap.size ∧ ∃ v : FnV, DeepF w v P.fs[k] ∧ w.cell? ⟨b, o + k * 4, none⟩ = some (.slice v.p.a v.p.n v.p.c) ∧ w.cell? ⟨b, o + k * 4 + 1, none⟩ = some (.slice v.l.a v.l.n v.l.c) ∧ w.cell? ⟨b, o + k * 4 + 2, none⟩ = some (.int .i64 v.r) ∧ w.cell? ⟨b, o + k * 4 + 3, none⟩ = some (.slice v.c.a v.c.n v.c.c) := by
  obtain ⟨Lf, hr, hA⟩ := h.f
  have hlen := allF_len hA
  obtain ⟨b, o, cap, e, h1, h2, h3, h4⟩ := readR_pos hr (by omega)
  have e1 : p.f.a = some ⟨b, o, none⟩ := by
    have e2 : Value.slice p.f.a p.f.n p.f.c = .slice (some ⟨b, o, none⟩) Lf.length cap := e
    injection e2
  obtain ⟨c0, c1, c2, c3⟩ := fn_cells h4 k (by omega)
  exact ⟨b, o, e1, h3, Lf[k], allF_at hA k (by omega) hk, c0, c1, c2, c3⟩
theorem getD_at9 {α : Type} {l : List α} {k : Nat} (h : k < l.length) (d : α) : l.getD k d = l[k] := by rw [List.getD_eq_getElem?_getD, List.getElem?_eq_getElem h]; rfl
theorem ownR_slOk9 {α : Type} {c : Elt α} {E : TypeId} {w : World} {B : Nat} {a : Option Addr} {n cap : Nat} {L : List α} (h : OwnR c E w B (.slice a n cap) L) : slOk w E a n := by
  rcases Nat.eq_zero_or_pos L.length with q | q
  · obtain ⟨_, _, e, _, _⟩ := readR_len (ownR_read h)
    injection e with _ e2 _
    exact Or.inl (by omega)
  · obtain ⟨g, cap', e, _, _, _, _, _⟩ := ownR_form h q
    injection e with e1 _ _
    subst e1
    exact Or.inr ⟨g, rfl, ownR_ty h g rfl⟩
def RCallEnd (w0 w : World) (r : Nat) (q : PrV) (L : List FrM) (A : List ValM) (ps ls : List Int) (k : Nat) (e : Ending) (w' : World) : Prop :=
  (kindsV A ≠ ps → e = .returned (.int .i64 1) ∧ Below w.heap.size w w') ∧ (kindsV A = ps → 24 ≤ L.length → e = .returned (.int .i64 5) ∧ Below w.heap.size w w') ∧
  (kindsV A = ps → L.length < 24 → e = .returned (.int .i64 0) ∧ ∃ lv', DocF w0 w' r q lv' (L ++ [⟨k, 0, A ++ zeroV ls, []⟩]) ∧ GrowX w w' (fun j => j = r))
theorem kinds_at {A : List ValM} {ps : List Int} {i : Nat} (hl : A.length = ps.length) (hi : i < A.length) (h : A[i].k ≠ ps.getD i 0) : kindsV A ≠ ps := fun e => h (by
  rw [← e, getD_at9 (by unfold kindsV; rw [List.length_map]; exact hi) (0 : Int)]
  unfold kindsV
  rw [List.getElem_map])
theorem kinds_allR {A : List ValM} {ps : List Int} (hl : A.length = ps.length) (h : ∀ i, (hi : i < A.length) → A[i].k = ps.getD i 0) : kindsV A = ps := by
  refine List.ext_getElem (by unfold kindsV; rw [List.length_map, hl]) (fun i h1 h2 => ?_)
  have hi : i < A.length := by rw [hl]; exact h2
  have z := h i hi
  rw [getD_at9 h2] at z
  have e : (kindsV A)[i]'h1 = A[i].k := by simp [kindsV]
  rw [e, z]
theorem zeroV_take {ls : List Int} {i : Nat} (hi : i < ls.length) : zeroV (ls.take (i + 1)) = zeroV (ls.take i) ++ [⟨ls.getD i 0, 0⟩] := by
  unfold zeroV
  rw [List.take_succ_eq_append_getElem hi, List.map_append, getD_at9 hi]; rfl
set_option maxRecDepth 100000 in
set_option maxHeartbeats 4000000 in
theorem rcall_any {P : PrM} (h : DocF w0 w r q lv L) (hP : ReadP w0 q P) (hS : SmallP P) (k : Nat) (hk : k < P.fs.length) (hL : L.length ≤ 24) {a : Option Addr} {n c : Nat} {A : List ValM} (hA : ReadR valE w (.slice a n c) A) (hn : n = P.fs[k].ps.length) : Calls Try.prog 65 #[rp r, .int .i64 k, .slice a n c] w (RCallEnd w0 w r q L A P.fs[k].ps P.fs[k].ls k) := by
  have HDD := Lib.hid h
  obtain ⟨n1, n2, n3⟩ := doc_len h
  have b4 := h.hd.2.1 4 (by simp)
  simp only [List.getElem_cons_succ, List.getElem_cons_zero] at b4
  rw [n1] at b4
  obtain ⟨fl1, fl2, fl3⟩ := fns_len hP
  have fl4 := cap_le fl3
  have HBE := Lib.hid h.be
  have b3 := h.hd.2.1 3 (by simp)
  simp only [List.getElem_cons_succ, List.getElem_cons_zero] at b3
  rw [fl1] at b3
  have bz := h.hd.1
  obtain ⟨pb, po, epa, fz0, ⟨⟨pa, pn, pc⟩, ⟨la9, ln, lc⟩, rr, ⟨ca, cn, cc⟩⟩, hd, f0, f1, f2, f3⟩ := fnF_at hP hk
  rw [epa] at b3
  simp only at f0 f1 f2 f3
  have fz := Nat.lt_of_lt_of_le fz0 h.be.size
  have hbe := (bcell h.be).1
  replace f0 := (hbe _ _ fz0).trans f0
  replace f1 := (hbe _ _ fz0).trans f1
  replace f2 := (hbe _ _ fz0).trans f2
  replace f3 := (hbe _ _ fz0).trans f3
  obtain ⟨_, pcap, epv, hp1, hp2⟩ := readI_len9 hd.p
  obtain ⟨_, lcap, elv, hlv1, hlv2⟩ := readI_len9 hd.l
  simp only at epv hp1 hp2 elv hlv1 hlv2
  have hRP := readI_below hd.p h.be
  have hRL := readI_below hd.l h.be
  have hsm := hS.a _ (List.getElem_mem hk)
  have hps := hsm.p
  have hls := hsm.l
  obtain ⟨ps, hpsE⟩ : ∃ ps, ps = P.fs[k].ps := ⟨_, rfl⟩
  obtain ⟨ls, hlsE⟩ : ∃ ls, ls = P.fs[k].ls := ⟨_, rfl⟩
  rw [← hpsE] at hps hRP epv hp1 hn ⊢
  rw [← hlsE] at hls hRL elv hlv1 ⊢
  subst epv elv
  obtain ⟨a', c', eA, hA1, hA2⟩ := readR_len hA
  injection eA with eA1 eA2 eA3
  have hAps : A.length = ps.length := by omega
  have hAc := cap_le hA2
  subst hn
  have HA := Lib.hid (show ReadR valE w (.slice a ps.length c) A from hA)
  have HAP := Lib.hid hAps
  have HRP : Hid (ReadI w (.slice pa ps.length pc) ps) := Lib.hid hRP
  have HRL : Hid (ReadI w (.slice la9 ls.length lc) ls) := Lib.hid hRL
  have HL24 := Lib.hid hL
  have k0 : (0 : Int) ≤ k := by omega
  have k1 : (k : Int) < P.fs.length := by omega
  have kc : (k : Int) < q.f.c := by omega
  have kn : ¬ ((k : Int) < 0) := by omega
  have kn2 : ¬ ((P.fs.length : Int) ≤ k) := by omega
  have nps : (ps.length : Int) ≤ 10 := by omega
  have nls : (ls.length : Int) ≤ 10 := by omega
  have hAc1 : (ps.length : Int) ≤ c := by omega
  have hpc1 : (ps.length : Int) ≤ pc := by omega
  have hlc1 : (ls.length : Int) ≤ lc := by omega
  have hee : ((ps.length : Int) != ps.length) = false := by simp
  have nl : (L.length : Int) ≤ 24 := by omega
  have HKI : Hid (∀ i, (hi : i < A.length) → A[i].k ≠ ps.getD i 0 → kindsV A ≠ ps) := Lib.hid (fun i hi z => kinds_at hAps hi z)
  have HKA : Hid ((∀ i, (hi : i < A.length) → A[i].k = ps.getD i 0) → kindsV A = ps) := Lib.hid (fun z => kinds_allR hAps z)
  clear h hP hS hk hL hA eA1 eA2 eA3 hA1 hA2 hAps hRP hRL hps hls hsm hd hpsE hlsE fl1 fl2 fl3 epa hp1 hp2 hlv1 hlv2 hbe fz0 n1
  unfold rp
  go_enter Try.func65, Try.ntmps65
  go_upto_region 5 with fail
  refine wp_named ?_
  intro W hW
  have S1 : Blk W w.heap.size [.slice pa ps.length pc, .slice la9 ls.length lc, .int .i64 rr, .slice ca cn cc] ∧ Blk W (w.heap.size + 1) [.int .i64 k, .int .i64 0, .slice none 0 0, .slice none 0 0] ∧ Below w.heap.size w W := by
    rw [hW]
    exact boxF2 w #[.slice pa ps.length pc, .slice la9 ls.length lc, .int .i64 rr, .slice ca cn cc] #[.int .i64 k, .int .i64 0, .slice none 0 0, .slice none 0 0] FNT RFT
  have HTX : Hid (tyB W (w.heap.size + 1) = some RFT) := Lib.hid (by rw [hW]; exact tyB_new2 (by simp))
  have HG := Lib.hid S1.1
  have HBW := Lib.hid S1.2.2
  have HTG : Hid (tyB W w.heap.size = some FNT) := Lib.hid (by rw [hW]; exact tyB_alloc (tyB_new _ _ _) _)
  obtain ⟨GL, hGL⟩ : ∃ GL, GL = ([.slice pa ps.length pc, .slice la9 ls.length lc, .int .i64 rr, .slice ca cn cc] : List Value) := ⟨_, rfl⟩
  have HC0 : Hid (CallS w W GL (w.heap.size + 1) k [] none 0 0) := Lib.hid ⟨S1.2.2, by rw [hGL]; exact S1.1, HTG.out, S1.2.1, HTX.out, ownR_nil _ _⟩
  have HBX : Hid (∀ w', Below w.heap.size w w' → w'.cell? ⟨r, 4, none⟩ = some (.slice lv.a L.length lv.c) ∧ r < w'.heap.size) := Lib.hid (fun w' hb => ⟨((bcell hb).1 _ _ bz).trans b4, Nat.lt_of_lt_of_le bz hb.size⟩)
  have HGG : Hid (∀ wr M a n c, CallS w wr GL (w.heap.size + 1) k M a n c → wr.cell? ⟨w.heap.size, 0, none⟩ = some (.slice pa ps.length pc) ∧ wr.cell? ⟨w.heap.size, 1, none⟩ = some (.slice la9 ls.length lc) ∧ w.heap.size < wr.heap.size) := Lib.hid (fun wr M a n c hc => by
    have z := hc.g
    rw [hGL] at z
    obtain ⟨y0, y1, _⟩ := blk4 z
    exact ⟨y0, y1, z.1⟩)
  clear hW S1 b3 f0 f1 f2 f3 fz bz b4 HG hGL
  go_wp2_with fail
  go_loopw [52] (fun iv wr => ∃ (i : Nat) (a5 : Option Addr) (n5 c5 : Nat), i ≤ ps.length ∧ iv = .int .i64 i ∧ Hid (∀ j, (hj : j < A.length) → j < i → A[j].k = ps.getD j 0) ∧ Hid (CallS w wr GL (w.heap.size + 1) k (A.take i) a5 n5 c5)) (fun iv _ => ps.length - (intOf iv).toNat)
  case atStart => exact ⟨0, none, 0, 0, Nat.zero_le _, rfl, Lib.hid (fun j hj hj2 => absurd hj2 (Nat.not_lt_zero _)), HC0⟩
  case round =>
    obtain ⟨W1, hW1⟩ : ∃ x, x = wr := ⟨_, rfl⟩
    subst hW1
    obtain ⟨i, a5, n5, c5, hi, rfl, HEQ, HC⟩ := hrel
    have i0 : (0 : Int) ≤ i := by omega
    have HB01 : Hid (Below w.heap.size w W1) := Lib.hid HC.out.b
    by_cases hlt : i < ps.length
    · have i1 : (i : Int) < ps.length := by omega
      have ic : (i : Int) < c := by omega
      have ipc : (i : Int) < pc := by omega
      have hiA : i < A.length := by have := HAP.out; omega
      obtain ⟨bl, off, cp, e1, r1, r2, hbl, r4⟩ := valR_pos (readR_below HA.out HB01.out) (by omega)
      injection e1 with e1 _ e3
      subst e1
      obtain ⟨v0, v1⟩ := r4 i hiA
      obtain ⟨bp, op, cpp, e5, p1, p2, hbp, p4⟩ := readI_pos (readI_below HRP.out HB01.out) (by omega)
      injection e5 with e5 _ e6
      subst e5
      have pk := p4 i hlt
      have HKI2 := Lib.hid (HKI.out i hiA)
      have HT : Hid (A.take (i + 1) = A.take i ++ [A[i]]) := Lib.hid (List.take_succ_eq_append_getElem hiA)
      have HEI : Hid (∀ x, A[i].k = x → ∀ j, (hj : j < A.length) → j = i → A[j].k = x) := Lib.hid (fun x hx j hj e => by subst e; exact hx)
      have HTL : Hid ((A.take i).length = i) := Lib.hid (by rw [List.length_take]; omega)
      obtain ⟨y, hy⟩ : ∃ y, y = ps.getD i 0 := ⟨_, rfl⟩
      rw [← hy] at pk HKI2
      have HY := Lib.hid hy
      have HIA := Lib.hid hiA
      generalize A[i]'hiA = x at *
      obtain ⟨xk, xb⟩ := x
      simp only at v0 v1
      clear r4 r1 r2 e3 p4 p1 p2 e6 hy
      go_upto_region 8 with fail
      refine wp_named ?_
      intro W2 hW2
      have S2 : Blk W2 W1.heap.size [.int .i64 xk, .int .u64 xb] ∧ Below W1.heap.size W1 W2 := by
        rw [hW2]
        exact ⟨blk_new _ _ _, b_alloc (Below.refl _ _) _⟩
      have HC2 := Lib.hid (callS_below HC.out S2.2)
      have HX2 := Lib.hid S2.1
      have HB12 := Lib.hid S2.2
      obtain ⟨y0, y1, _⟩ := blk2 S2.1
      have yz := S2.1.1
      have pk' := ((bcell S2.2).1 _ _ hbp).trans pk
      have pz' := Nat.lt_of_lt_of_le hbp S2.2.size
      clear hW2 S2 v0 v1 hbl pk hbp
      obtain ⟨t0, t1, tz⟩ := HGG.out _ _ _ _ _ HC2.out
      by_cases hxy : xk = y
      · have hq : (xk != y) = false := by rw [hxy]; simp
        have HXY := Lib.hid hxy
        clear hxy
        go_big_quiet (fail)
        obtain ⟨W3, hW3⟩ : ∃ x, x = W2.drewN nq := ⟨_, rfl⟩
        rw [← hW3]
        have hbD : Below W2.heap.size W2 W3 := by rw [hW3]; exact b_drewN (Below.refl _ _) _
        have HC3 := Lib.hid (callS_below HC2.out hbD)
        have HX3 := Lib.hid (blk_below HX2.out hbD)
        clear hW3 hbD pk' pz' t0 t1 tz y0 y1 yz
        obtain ⟨x0, x1, x2, x3, xf⟩ := blk4 HC3.out.x
        have xz := HC3.out.x.1
        obtain ⟨y0, y1, _⟩ := blk2 HX3.out
        have yz := HX3.out.1
        have hn5 : n5 = i := by
          obtain ⟨_, _, e, _, _⟩ := readR_len (ownR_read HC3.out.o)
          injection e with _ e2 _
          rw [e2]; exact HTL.out
        have hiL : i ≤ 10 := by omega
        subst hn5
        have hbs := HC3.out.b.size
        obtain ⟨MM, hMM⟩ : ∃ MM, MM = A.take n5 := ⟨_, rfl⟩
        have HML : Hid (MM.length = n5) := Lib.hid (by rw [hMM]; exact HTL.out)
        rw [← hMM] at HC3 HT
        clear hMM
        go_wp2_with (at_builtin; refine append1 (c := valE) rowVR (by rfl) _ _ (by rfl) (by rfl) (v := .slice a5 n5 c5) (L := MM) (B := w.heap.size) (ownR_alloc HC3.out.o _) (⟨xk, xb⟩ : ValM) _ 1 (by rfl) (blk_new3 rfl) ?c1 ?c2 ?c3 ?_; (case c1 => (have := HML.out; omega)); (case c2 => (have := HML.out; unfold maxLen; omega)); (case c3 => (simp; omega)); intro g9 cap9 w9 ho9 hg9 hor9 hl9; obtain ⟨hx9, hc9⟩ := callS_app HC3.out (Nat.lt_succ_self _) (b_alloc (Below.refl _ _) _) ho9 hg9; have HC9 := Lib.hid hc9; obtain ⟨z0, z1, z2, z3, zf⟩ := blk4 hx9; have zz := hx9.1; clear ho9 hg9 hor9 hl9 hc9 hx9)
        go_roundw
        case rel =>
          refine ⟨_, _, _, _, ⟨n5 + 1, by omega, rfl, Lib.hid (fun j hj hj2 => ?_), some ⟨g9, 0, none⟩, MM.length + 1, cap9, Lib.hid (by rw [HT.out]; exact HC9.out)⟩, rfl, rfl, rfl, by first | rfl | go_num⟩
          rw [← List.getD_eq_getElem?_getD]
          rcases (show j = n5 ∨ j < n5 by omega) with e | e
          · rw [HEI.out y HXY.out j hj e, e, HY.out]
          · exact HEQ.out j hj e
        case measure => simp [intOf]; omega
      · have hq : (xk != y) = true := bne_iff_ne.2 hxy
        have HNE := Lib.hid (HKI2.out hxy)
        have HB2 := Lib.hid HC2.out.b
        clear hxy
        go_big_quiet (fail)
        go_wp2_with fail
        go_ret
        exact ⟨fun _ => ⟨rfl, b_drewN HB2.out _⟩, fun e => absurd e HNE.out, fun e => absurd e HNE.out⟩
    · have i1 : ¬ ((i : Int) < ps.length) := by omega
      have HKK : Hid (kindsV A = ps) := Lib.hid (HKA.out (fun j hj => HEQ.out j hj (by have := HAP.out; omega)))
      have HCA : Hid (CallS w W1 GL (w.heap.size + 1) k A a5 n5 c5) := Lib.hid (by have z := HC.out; rw [List.take_of_length_le (by have := HAP.out; omega)] at z; exact z)
      obtain ⟨b4', bz'⟩ := HBX.out W1 HB01.out
      by_cases h24 : 24 ≤ L.length
      · have q24 : (24 : Int) ≤ L.length := by omega
        go_wp2_with fail
        go_ret
        exact ⟨fun e => absurd HKK.out e, fun _ _ => ⟨rfl, HB01.out⟩, fun _ e => by omega⟩
      · have q24 : ¬ ((24 : Int) ≤ L.length) := by omega
        have H24 := Lib.hid h24
        obtain ⟨t0, t1, tz⟩ := HGG.out _ _ _ _ _ HCA.out
        clear h24
        go_wp2_with fail
        clear t0 t1 tz b4' bz'
        go_loopw [81] (fun iv wr => ∃ (i : Nat) (a5 : Option Addr) (n5 c5 : Nat), i ≤ ls.length ∧ iv = .int .i64 i ∧ Hid (CallS w wr GL (w.heap.size + 1) k (A ++ zeroV (ls.take i)) a5 n5 c5)) (fun iv _ => ls.length - (intOf iv).toNat)
        case atStart => exact ⟨0, a5, n5, c5, Nat.zero_le _, rfl, Lib.hid (by rw [List.take_zero]; show CallS w _ GL _ _ (A ++ []) _ _ _; rw [List.append_nil]; exact HCA.out)⟩
        case round =>
          obtain ⟨W5, hW5⟩ : ∃ x, x = wr := ⟨_, rfl⟩
          subst hW5
          obtain ⟨t, a6, n6, c6, ht, rfl, HC6⟩ := hrel
          have t0 : (0 : Int) ≤ t := by omega
          have HB05 : Hid (Below w.heap.size w W5) := Lib.hid HC6.out.b
          by_cases htl : t < ls.length
          · have t1 : (t : Int) < ls.length := by omega
            obtain ⟨bp, op, cpp, e5, p1, p2, hbp, p4⟩ := readI_pos (readI_below HRL.out HB05.out) (by omega)
            injection e5 with e5 _ e6
            subst e5
            have pk := p4 t htl
            have HT : Hid (A ++ zeroV (ls.take (t + 1)) = (A ++ zeroV (ls.take t)) ++ [⟨ls.getD t 0, 0⟩]) := Lib.hid (by rw [zeroV_take htl, List.append_assoc])
            generalize ls.getD t 0 = y at *
            obtain ⟨MM, hMM⟩ : ∃ MM, MM = A ++ zeroV (ls.take t) := ⟨_, rfl⟩
            have HML : Hid (MM.length ≤ 20) := Lib.hid (by rw [hMM, List.length_append]; unfold zeroV; rw [List.length_map, List.length_take]; have := HAP.out; omega)
            rw [← hMM] at HC6 HT
            have hn6 : n6 = MM.length := by
              obtain ⟨_, _, e, _, _⟩ := readR_len (ownR_read HC6.out.o)
              injection e with _ e2 _
            subst hn6
            obtain ⟨x0, x1, x2, x3, xf⟩ := blk4 HC6.out.x
            have xz := HC6.out.x.1
            have hbs := HC6.out.b.size
            clear p4 p1 p2 e6 hMM
            go_wp2_with (at_builtin; refine append1 (c := valE) rowVR (by rfl) _ _ (by rfl) (by rfl) (v := .slice a6 MM.length c6) (L := MM) (B := w.heap.size) (ownR_alloc HC6.out.o _) (⟨y, 0⟩ : ValM) _ 1 (by rfl) (blk_new3 rfl) ?c1 ?c2 ?c3 ?_; (case c1 => (have := HML.out; omega)); (case c2 => (have := HML.out; unfold maxLen; omega)); (case c3 => (simp; omega)); intro g9 cap9 w9 ho9 hg9 hor9 hl9; obtain ⟨hx9, hc9⟩ := callS_app HC6.out (Nat.lt_succ_self _) (b_alloc (Below.refl _ _) _) ho9 hg9; have HC9 := Lib.hid hc9; obtain ⟨z0, z1, z2, z3, zf⟩ := blk4 hx9; have zz := hx9.1; clear ho9 hg9 hor9 hl9 hc9 hx9)
            go_roundw
            case rel => exact ⟨t + 1, some ⟨g9, 0, none⟩, MM.length + 1, cap9, by omega, by first | rfl | go_num, Lib.hid (by rw [HT.out]; exact HC9.out)⟩
            case measure => simp [intOf]; omega
          · have t1 : ¬ ((t : Int) < ls.length) := by omega
            have HC8 : Hid (CallS w W5 GL (w.heap.size + 1) k (A ++ zeroV ls) a6 n6 c6) := Lib.hid (by have z := HC6.out; rw [List.take_of_length_le (by omega)] at z; exact z)
            obtain ⟨V, hR, hVl, hVk⟩ := doc_R HDD.out
            have HVL := Lib.hid hVl
            have hn6 : n6 = (A ++ zeroV ls).length := by
              obtain ⟨_, _, e, _, _⟩ := readR_len (ownR_read HC8.out.o)
              injection e with _ e2 _
            have HR5 := Lib.hid (docR_below hR HB05.out)
            have HFIN : Hid (∀ (q9 : World) g cap, Below W5.heap.size W5 q9 → OwnR frmE RFT q9 W5.heap.size (.slice (some ⟨g, 0, none⟩) (V.length + 1) cap) (V ++ [⟨k, 0, ⟨a6, n6, c6⟩, ⟨none, 0, 0⟩⟩]) → RCallEnd w0 w r q L A ps ls k (.returned (.int .i64 0)) (q9.setCell ⟨r, 4, none⟩ (.slice (some ⟨g, 0, none⟩) (V.length + 1) cap))) := Lib.hid (fun q9 g cap hb ho => by
              have z := docR_put HR5.out hb (lv' := ⟨some ⟨g, 0, none⟩, V.length + 1, cap⟩) (ownR_read ho) (Or.inr ⟨g, rfl, ownR_ty ho g rfl⟩)
              have hgx := gx_pre HB05.out z.2
              have hc := HC8.out
              have hok : RfOk W5 ⟨k, 0, ⟨a6, n6, c6⟩, ⟨none, 0, 0⟩⟩ ⟨k, 0, A ++ zeroV ls, []⟩ := ⟨rfl, rfl, ownR_read hc.o, ownR_slOk9 hc.o, readR_nil _, Or.inl rfl⟩
              have hok2 := rfOk_gx (tyB_call HDD.out.ty HB05.out) hok z.2
              exact ⟨fun e => absurd HKK.out e, fun _ e => absurd e H24.out, fun _ _ => ⟨rfl, _, doc_more HDD.out hgx hVl hVk z.1 hok2, hgx⟩⟩)
            have HXX : Hid (Blk W5 (w.heap.size + 1) [.int .i64 k, .int .i64 0, .slice a6 n6 c6, .slice none 0 0]) := Lib.hid HC8.out.x
            have HBOX := Lib.hid HR5.out.hd
            have HS : Hid (∀ w', Below W5.heap.size W5 w' → (w'.cell? ⟨r, 4, none⟩ = some (.slice lv.a L.length lv.c)) ∧ (w'.cell? ⟨w.heap.size + 1, 0, none⟩ = some (.int .i64 k) ∧ w'.cell? ⟨w.heap.size + 1, 1, none⟩ = some (.int .i64 0) ∧ w'.cell? ⟨w.heap.size + 1, 2, none⟩ = some (.slice a6 n6 c6) ∧ w'.cell? ⟨w.heap.size + 1, 3, none⟩ = some (.slice none 0 0))) := Lib.hid (fun w' hb => by
              obtain ⟨x0, x1, x2, x3, _⟩ := blk4 (blk_below HXX.out hb)
              exact ⟨(HBX.out w' (b_call HB05.out hb)).1, x0, x1, x2, x3⟩)
            have HVR : Hid (ReadR frmE W5 (.slice lv.a L.length lv.c) V) := Lib.hid (by
              have z := HR5.out.rd
              rw [(docR_len HR5.out).1, hVl] at z
              exact z)
            clear hR hVl hVk hn6
            go_upto_region 19 with fail
            refine wp_region_E (S := fun w' => (w'.cell? ⟨r, 4, none⟩ = some (.slice lv.a L.length lv.c)) ∧ (w'.cell? ⟨w.heap.size + 1, 0, none⟩ = some (.int .i64 k) ∧ w'.cell? ⟨w.heap.size + 1, 1, none⟩ = some (.int .i64 0) ∧ w'.cell? ⟨w.heap.size + 1, 2, none⟩ = some (.slice a6 n6 c6) ∧ w'.cell? ⟨w.heap.size + 1, 3, none⟩ = some (.slice none 0 0))) 12 (by kernel_rfl) (HS.out _ (b_drew (Below.refl _ _))) (fun hHeld => ?_)
            (refine wpAnyE_take (n := 12) (i := 0) (v := ?_) rfl (by kernel_rfl) (by kernel_rfl) (by kernel_rfl) (by kernel_rfl) (by kernel_rfl) (fun _ _ _ h => h) (Or.inl ⟨by rfl, ?_⟩) hHeld ?_; rotate_left; (focus (intro w hSw; (try dsimp only at hSw); go_simp; try (with_reducible rfl))); (try simp only [Act.put, List.getElem_toArray, List.getElem_cons_succ, List.getElem_cons_zero, List.setIfInBounds_toArray, List.set_cons_zero, List.set_cons_succ]))
            (refine wpAnyE_take (n := 12) (i := 2) (v := ?_) rfl (by kernel_rfl) (by kernel_rfl) (by kernel_rfl) (by kernel_rfl) (by kernel_rfl) (fun _ _ _ h => h) (Or.inl ⟨by rfl, ?_⟩) hHeld ?_; rotate_left; (focus (intro w hSw; (try dsimp only at hSw); go_simp; try (with_reducible rfl))); (try simp only [Act.put, List.getElem_toArray, List.getElem_cons_succ, List.getElem_cons_zero, List.setIfInBounds_toArray, List.set_cons_zero, List.set_cons_succ]))
            (refine wpAnyE_take (n := 12) (i := 3) (v := ?_) rfl (by kernel_rfl) (by kernel_rfl) (by kernel_rfl) (by kernel_rfl) (by kernel_rfl) (fun _ _ _ h => h) (Or.inl ⟨by rfl, ?_⟩) hHeld ?_; rotate_left; (focus (intro w hSw; (try dsimp only at hSw); go_simp; try (with_reducible rfl))); (try simp only [Act.put, List.getElem_toArray, List.getElem_cons_succ, List.getElem_cons_zero, List.setIfInBounds_toArray, List.set_cons_zero, List.set_cons_succ]))
            (refine wpAnyE_take (n := 12) (i := 4) (v := ?_) rfl (by kernel_rfl) (by kernel_rfl) (by kernel_rfl) (by kernel_rfl) (by kernel_rfl) (fun _ _ _ h => h) (Or.inl ⟨by rfl, ?_⟩) hHeld ?_; rotate_left; (focus (intro w hSw; (try dsimp only at hSw); go_simp; try (with_reducible rfl))); (try simp only [Act.put, List.getElem_toArray, List.getElem_cons_succ, List.getElem_cons_zero, List.setIfInBounds_toArray, List.set_cons_zero, List.set_cons_succ]))
            (refine wpAnyE_take (n := 12) (i := 5) (v := ?_) rfl (by kernel_rfl) (by kernel_rfl) (by kernel_rfl) (by kernel_rfl) (by kernel_rfl) (fun _ _ _ h => h) (Or.inl ⟨by rfl, ?_⟩) hHeld ?_; rotate_left; (focus (intro w hSw; (try dsimp only at hSw); go_simp; try (with_reducible rfl))); (try simp only [Act.put, List.getElem_toArray, List.getElem_cons_succ, List.getElem_cons_zero, List.setIfInBounds_toArray, List.set_cons_zero, List.set_cons_succ]))
            (refine wpAnyE_take (n := 12) (i := 7) (v := ?_) rfl (by kernel_rfl) (by kernel_rfl) (by kernel_rfl) (by kernel_rfl) (by kernel_rfl) (fun _ _ _ h => h) (Or.inl ⟨by rfl, ?_⟩) hHeld ?_; rotate_left; (focus (intro w hSw; (try dsimp only at hSw); go_simp; try (with_reducible rfl))); (try simp only [Act.put, List.getElem_toArray, List.getElem_cons_succ, List.getElem_cons_zero, List.setIfInBounds_toArray, List.set_cons_zero, List.set_cons_succ]))
            refine wpAnyE_named ?_
            intro q0 hq0
            have HBq0 : Hid (Below W5.heap.size W5 q0) := Lib.hid (by rw [hq0]; exact b_drew (Below.refl _ _))
            clear hq0
            replace hHeld := HS.out _ HBq0.out
            refine wpAnyE_ready (rs := [1, 8]) (by kernel_rfl) (by simp) (AllReadyE.cons rfl (fun K hK => ?_) (AllReadyE.cons rfl (fun K hK => ?_) (AllReadyE.nil)))
            · skip
              go_simp
              refine hK.out _ _ (HS.out _ (b_alloc HBq0.out _)) (fun hHeld => ?_)
              clear hK K
              (try simp only [Act.put, List.getElem_toArray, List.getElem_cons_succ, List.getElem_cons_zero, List.setIfInBounds_toArray, List.set_cons_zero, List.set_cons_succ])
              refine wpAnyE_named ?_
              intro q1 hq1
              have HBq1 : Hid (Below W5.heap.size W5 q1) := Lib.hid (by rw [hq1]; exact b_alloc HBq0.out _)
              obtain ⟨B, hB⟩ : ∃ x, x = q0.heap.size := ⟨_, rfl⟩
              rw [← hB]
              have OWq1 : Hid (OwnR frmE RFT q1 W5.heap.size (.slice (some ⟨B, 0, none⟩) 0 0) []) := Lib.hid (by rw [hq1, hB]; exact own_emptyR HBq0.out.size)
              clear hq1 hB
              replace hHeld := HS.out _ HBq1.out
              refine wpAnyE_ready (rs := [6, 8]) (by kernel_rfl) (by simp) (AllReadyE.cons rfl (fun K hK => ?_) (AllReadyE.cons rfl (fun K hK => ?_) (AllReadyE.nil)))
              · skip
                refine step_appendR rowRF (by rfl) _ _ (by rfl) W5.heap.size _ [] (by rfl) OWq1.out _ V (by rfl) (readR_below HVR.out HBq1.out) (by (have := HVL.out; have := HL24.out); simp only [List.length_nil]; omega) (by (have := HVL.out; have := HL24.out); simp only [List.length_nil]; unfold maxLen; omega) HBq1.out.size ?_
                intro V1 q2 ownq2 hgq2
                rw [List.nil_append] at ownq2
                have HBq2 := Lib.hid (b_ownR HBq1.out OWq1.out hgq2)
                have OWq2 := Lib.hid ownq2
                clear ownq2 hgq2
                refine hK.out _ _ (HS.out _ HBq2.out) (fun hHeld => ?_)
                clear hK K
                (try simp only [Act.put, List.getElem_toArray, List.getElem_cons_succ, List.getElem_cons_zero, List.setIfInBounds_toArray, List.set_cons_zero, List.set_cons_succ])
                refine wpAnyE_ready (rs := [8]) (by kernel_rfl) (by simp) (AllReadyE.cons rfl (fun K hK => ?_) AllReadyE.nil)
                go_simp
                refine hK.out _ _ (HS.out _ (b_alloc HBq2.out _)) (fun hHeld => ?_)
                clear hK K
                (try simp only [Act.put, List.getElem_toArray, List.getElem_cons_succ, List.getElem_cons_zero, List.setIfInBounds_toArray, List.set_cons_zero, List.set_cons_succ])
                refine wpAnyE_named ?_
                intro q3 hq3
                have HBq3 : Hid (Below W5.heap.size W5 q3) := Lib.hid (by rw [hq3]; exact b_alloc HBq2.out _)
                obtain ⟨Y, hY⟩ : ∃ x, x = q2.heap.size := ⟨_, rfl⟩
                rw [← hY]
                have HYq3 : Hid (Blk q3 Y [.int .i64 k, .int .i64 0, .slice a6 n6 c6, .slice none 0 0]) := Lib.hid (by rw [hq3]; exact blk_new3 hY)
                have OWq3 : Hid (OwnR frmE RFT q3 W5.heap.size V1 V) := Lib.hid (by rw [hq3]; exact ownR_alloc OWq2.out _)
                clear hq3 hY
                replace hHeld := HS.out _ HBq3.out
                refine wpAnyE_ready (rs := [9]) (by kernel_rfl) (by simp) (AllReadyE.cons rfl (fun K hK => ?_) AllReadyE.nil)
                refine step_append1 rowRF (by rfl) _ _ (by rfl) (by rfl) (B := W5.heap.size) OWq3.out ⟨k, 0, ⟨a6, n6, c6⟩, ⟨none, 0, 0⟩⟩ Y 1 (by rfl) HYq3.out (by (have := HVL.out; have := HL24.out); omega) (by (have := HVL.out; have := HL24.out); unfold maxLen; omega) HBq3.out.size ?_
                intro g cap q4 ownq4 hgq4 horq4 hlq4
                have HBq4 := Lib.hid (b_ownR HBq3.out OWq3.out hgq4)
                have OWq4 := Lib.hid ownq4
                clear ownq4 hgq4 horq4 hlq4
                refine hK.out _ _ (HS.out _ HBq4.out) (fun hHeld => ?_)
                clear hK K
                (try simp only [Act.put, List.getElem_toArray, List.getElem_cons_succ, List.getElem_cons_zero, List.setIfInBounds_toArray, List.set_cons_zero, List.set_cons_succ])
                (refine wpAnyE_take (n := 12) (i := 10) (v := ?_) rfl (by kernel_rfl) (by kernel_rfl) (by kernel_rfl) (by kernel_rfl) (by kernel_rfl) (fun _ _ _ h => h) (Or.inl ⟨by rfl, ?_⟩) hHeld ?_; rotate_left; (focus (intro w hSw; (try dsimp only at hSw); go_simp; try (with_reducible rfl))); (try simp only [Act.put, List.getElem_toArray, List.getElem_cons_succ, List.getElem_cons_zero, List.setIfInBounds_toArray, List.set_cons_zero, List.set_cons_succ]))
                (refine wpAnyE_take (n := 12) (i := 11) (v := ?_) rfl (by kernel_rfl) (by kernel_rfl) (by kernel_rfl) (by kernel_rfl) (by kernel_rfl) (fun _ _ _ h => h) (Or.inl ⟨by rfl, ?_⟩) hHeld ?_; rotate_left; (focus (intro w hSw; (try dsimp only at hSw); go_simp; try (with_reducible rfl))); (try simp only [Act.put, List.getElem_toArray, List.getElem_cons_succ, List.getElem_cons_zero, List.setIfInBounds_toArray, List.set_cons_zero, List.set_cons_succ]))
                have bx := blk_below HBOX.out HBq4.out
                have bz := bx.1
                have bf := bx.2.2
                have b4 := bx.2.1 4 (by simp)
                clear bx
                refine wpAnyE_ready (rs := [12]) (by kernel_rfl) (by simp) (AllReadyE.last rfl (fun K hK => ?_))
                go_simp
                refine hK.out _ _ (trivial) (fun hHeld => ?_)
                clear hK K
                (try simp only [Act.put, List.getElem_toArray, List.getElem_cons_succ, List.getElem_cons_zero, List.setIfInBounds_toArray, List.set_cons_zero, List.set_cons_succ])
                refine wpAnyE_done (by kernel_rfl) ?_
                go_wp2_with fail
                go_ret
                exact HFIN.out _ g cap HBq4.out OWq4.out
              · skip
                go_simp
                refine hK.out _ _ (HS.out _ (b_alloc HBq1.out _)) (fun hHeld => ?_)
                clear hK K
                (try simp only [Act.put, List.getElem_toArray, List.getElem_cons_succ, List.getElem_cons_zero, List.setIfInBounds_toArray, List.set_cons_zero, List.set_cons_succ])
                refine wpAnyE_named ?_
                intro q5 hq5
                have HBq5 : Hid (Below W5.heap.size W5 q5) := Lib.hid (by rw [hq5]; exact b_alloc HBq1.out _)
                obtain ⟨Y, hY⟩ : ∃ x, x = q1.heap.size := ⟨_, rfl⟩
                rw [← hY]
                have HYq5 : Hid (Blk q5 Y [.int .i64 k, .int .i64 0, .slice a6 n6 c6, .slice none 0 0]) := Lib.hid (by rw [hq5]; exact blk_new3 hY)
                have OWq5 : Hid (OwnR frmE RFT q5 W5.heap.size (.slice (some ⟨B, 0, none⟩) 0 0) []) := Lib.hid (by rw [hq5]; exact ownR_alloc OWq1.out _)
                have HNE : Hid (Y ≠ B) := Lib.hid (by have := (ownR_lt OWq1.out B rfl).2; omega)
                clear hq5 hY
                replace hHeld := HS.out _ HBq5.out
                refine wpAnyE_ready (rs := [6]) (by kernel_rfl) (by simp) (AllReadyE.cons rfl (fun K hK => ?_) AllReadyE.nil)
                refine step_appendR rowRF (by rfl) _ _ (by rfl) W5.heap.size _ [] (by rfl) OWq5.out _ V (by rfl) (readR_below HVR.out HBq5.out) (by (have := HVL.out; have := HL24.out); simp only [List.length_nil]; omega) (by (have := HVL.out; have := HL24.out); simp only [List.length_nil]; unfold maxLen; omega) HBq5.out.size ?_
                intro V1 q6 ownq6 hgq6
                rw [List.nil_append] at ownq6
                have HBq6 := Lib.hid (b_ownR HBq5.out OWq5.out hgq6)
                have OWq6 := Lib.hid ownq6
                have HYq6 : Hid (Blk q6 Y [.int .i64 k, .int .i64 0, .slice a6 n6 c6, .slice none 0 0]) := Lib.hid (blk_grown HYq5.out hgq6 (fun e => HNE.out (by injection e)))
                clear ownq6 hgq6
                refine hK.out _ _ (HS.out _ HBq6.out) (fun hHeld => ?_)
                clear hK K
                (try simp only [Act.put, List.getElem_toArray, List.getElem_cons_succ, List.getElem_cons_zero, List.setIfInBounds_toArray, List.set_cons_zero, List.set_cons_succ])
                refine wpAnyE_ready (rs := [9]) (by kernel_rfl) (by simp) (AllReadyE.cons rfl (fun K hK => ?_) AllReadyE.nil)
                refine step_append1 rowRF (by rfl) _ _ (by rfl) (by rfl) (B := W5.heap.size) OWq6.out ⟨k, 0, ⟨a6, n6, c6⟩, ⟨none, 0, 0⟩⟩ Y 1 (by rfl) HYq6.out (by (have := HVL.out; have := HL24.out); omega) (by (have := HVL.out; have := HL24.out); unfold maxLen; omega) HBq6.out.size ?_
                intro g cap q7 ownq7 hgq7 horq7 hlq7
                have HBq7 := Lib.hid (b_ownR HBq6.out OWq6.out hgq7)
                have OWq7 := Lib.hid ownq7
                clear ownq7 hgq7 horq7 hlq7
                refine hK.out _ _ (HS.out _ HBq7.out) (fun hHeld => ?_)
                clear hK K
                (try simp only [Act.put, List.getElem_toArray, List.getElem_cons_succ, List.getElem_cons_zero, List.setIfInBounds_toArray, List.set_cons_zero, List.set_cons_succ])
                (refine wpAnyE_take (n := 12) (i := 10) (v := ?_) rfl (by kernel_rfl) (by kernel_rfl) (by kernel_rfl) (by kernel_rfl) (by kernel_rfl) (fun _ _ _ h => h) (Or.inl ⟨by rfl, ?_⟩) hHeld ?_; rotate_left; (focus (intro w hSw; (try dsimp only at hSw); go_simp; try (with_reducible rfl))); (try simp only [Act.put, List.getElem_toArray, List.getElem_cons_succ, List.getElem_cons_zero, List.setIfInBounds_toArray, List.set_cons_zero, List.set_cons_succ]))
                (refine wpAnyE_take (n := 12) (i := 11) (v := ?_) rfl (by kernel_rfl) (by kernel_rfl) (by kernel_rfl) (by kernel_rfl) (by kernel_rfl) (fun _ _ _ h => h) (Or.inl ⟨by rfl, ?_⟩) hHeld ?_; rotate_left; (focus (intro w hSw; (try dsimp only at hSw); go_simp; try (with_reducible rfl))); (try simp only [Act.put, List.getElem_toArray, List.getElem_cons_succ, List.getElem_cons_zero, List.setIfInBounds_toArray, List.set_cons_zero, List.set_cons_succ]))
                have bx := blk_below HBOX.out HBq7.out
                have bz := bx.1
                have bf := bx.2.2
                have b4 := bx.2.1 4 (by simp)
                clear bx
                refine wpAnyE_ready (rs := [12]) (by kernel_rfl) (by simp) (AllReadyE.last rfl (fun K hK => ?_))
                go_simp
                refine hK.out _ _ (trivial) (fun hHeld => ?_)
                clear hK K
                (try simp only [Act.put, List.getElem_toArray, List.getElem_cons_succ, List.getElem_cons_zero, List.setIfInBounds_toArray, List.set_cons_zero, List.set_cons_succ])
                refine wpAnyE_done (by kernel_rfl) ?_
                go_wp2_with fail
                go_ret
                exact HFIN.out _ g cap HBq7.out OWq7.out
            · skip
              go_simp
              refine hK.out _ _ (HS.out _ (b_alloc HBq0.out _)) (fun hHeld => ?_)
              clear hK K
              (try simp only [Act.put, List.getElem_toArray, List.getElem_cons_succ, List.getElem_cons_zero, List.setIfInBounds_toArray, List.set_cons_zero, List.set_cons_succ])
              refine wpAnyE_named ?_
              intro q8 hq8
              have HBq8 : Hid (Below W5.heap.size W5 q8) := Lib.hid (by rw [hq8]; exact b_alloc HBq0.out _)
              obtain ⟨Y, hY⟩ : ∃ x, x = q0.heap.size := ⟨_, rfl⟩
              rw [← hY]
              have HYq8 : Hid (Blk q8 Y [.int .i64 k, .int .i64 0, .slice a6 n6 c6, .slice none 0 0]) := Lib.hid (by rw [hq8]; exact blk_new3 hY)
              clear hq8 hY
              replace hHeld := HS.out _ HBq8.out
              refine wpAnyE_ready (rs := [1]) (by kernel_rfl) (by simp) (AllReadyE.cons rfl (fun K hK => ?_) AllReadyE.nil)
              go_simp
              refine hK.out _ _ (HS.out _ (b_alloc HBq8.out _)) (fun hHeld => ?_)
              clear hK K
              (try simp only [Act.put, List.getElem_toArray, List.getElem_cons_succ, List.getElem_cons_zero, List.setIfInBounds_toArray, List.set_cons_zero, List.set_cons_succ])
              refine wpAnyE_named ?_
              intro q9 hq9
              have HBq9 : Hid (Below W5.heap.size W5 q9) := Lib.hid (by rw [hq9]; exact b_alloc HBq8.out _)
              obtain ⟨B, hB⟩ : ∃ x, x = q8.heap.size := ⟨_, rfl⟩
              rw [← hB]
              have OWq9 : Hid (OwnR frmE RFT q9 W5.heap.size (.slice (some ⟨B, 0, none⟩) 0 0) []) := Lib.hid (by rw [hq9, hB]; exact own_emptyR HBq8.out.size)
              have HYq9 : Hid (Blk q9 Y [.int .i64 k, .int .i64 0, .slice a6 n6 c6, .slice none 0 0]) := Lib.hid (by rw [hq9]; exact blk_alloc HYq8.out _)
              have HNE : Hid (Y ≠ B) := Lib.hid (by have := HYq8.out.1; omega)
              clear hq9 hB
              replace hHeld := HS.out _ HBq9.out
              refine wpAnyE_ready (rs := [6]) (by kernel_rfl) (by simp) (AllReadyE.cons rfl (fun K hK => ?_) AllReadyE.nil)
              refine step_appendR rowRF (by rfl) _ _ (by rfl) W5.heap.size _ [] (by rfl) OWq9.out _ V (by rfl) (readR_below HVR.out HBq9.out) (by (have := HVL.out; have := HL24.out); simp only [List.length_nil]; omega) (by (have := HVL.out; have := HL24.out); simp only [List.length_nil]; unfold maxLen; omega) HBq9.out.size ?_
              intro V1 q10 ownq10 hgq10
              rw [List.nil_append] at ownq10
              have HBq10 := Lib.hid (b_ownR HBq9.out OWq9.out hgq10)
              have OWq10 := Lib.hid ownq10
              have HYq10 : Hid (Blk q10 Y [.int .i64 k, .int .i64 0, .slice a6 n6 c6, .slice none 0 0]) := Lib.hid (blk_grown HYq9.out hgq10 (fun e => HNE.out (by injection e)))
              clear ownq10 hgq10
              refine hK.out _ _ (HS.out _ HBq10.out) (fun hHeld => ?_)
              clear hK K
              (try simp only [Act.put, List.getElem_toArray, List.getElem_cons_succ, List.getElem_cons_zero, List.setIfInBounds_toArray, List.set_cons_zero, List.set_cons_succ])
              refine wpAnyE_ready (rs := [9]) (by kernel_rfl) (by simp) (AllReadyE.cons rfl (fun K hK => ?_) AllReadyE.nil)
              refine step_append1 rowRF (by rfl) _ _ (by rfl) (by rfl) (B := W5.heap.size) OWq10.out ⟨k, 0, ⟨a6, n6, c6⟩, ⟨none, 0, 0⟩⟩ Y 1 (by rfl) HYq10.out (by (have := HVL.out; have := HL24.out); omega) (by (have := HVL.out; have := HL24.out); unfold maxLen; omega) HBq10.out.size ?_
              intro g cap q11 ownq11 hgq11 horq11 hlq11
              have HBq11 := Lib.hid (b_ownR HBq10.out OWq10.out hgq11)
              have OWq11 := Lib.hid ownq11
              clear ownq11 hgq11 horq11 hlq11
              refine hK.out _ _ (HS.out _ HBq11.out) (fun hHeld => ?_)
              clear hK K
              (try simp only [Act.put, List.getElem_toArray, List.getElem_cons_succ, List.getElem_cons_zero, List.setIfInBounds_toArray, List.set_cons_zero, List.set_cons_succ])
              (refine wpAnyE_take (n := 12) (i := 10) (v := ?_) rfl (by kernel_rfl) (by kernel_rfl) (by kernel_rfl) (by kernel_rfl) (by kernel_rfl) (fun _ _ _ h => h) (Or.inl ⟨by rfl, ?_⟩) hHeld ?_; rotate_left; (focus (intro w hSw; (try dsimp only at hSw); go_simp; try (with_reducible rfl))); (try simp only [Act.put, List.getElem_toArray, List.getElem_cons_succ, List.getElem_cons_zero, List.setIfInBounds_toArray, List.set_cons_zero, List.set_cons_succ]))
              (refine wpAnyE_take (n := 12) (i := 11) (v := ?_) rfl (by kernel_rfl) (by kernel_rfl) (by kernel_rfl) (by kernel_rfl) (by kernel_rfl) (fun _ _ _ h => h) (Or.inl ⟨by rfl, ?_⟩) hHeld ?_; rotate_left; (focus (intro w hSw; (try dsimp only at hSw); go_simp; try (with_reducible rfl))); (try simp only [Act.put, List.getElem_toArray, List.getElem_cons_succ, List.getElem_cons_zero, List.setIfInBounds_toArray, List.set_cons_zero, List.set_cons_succ]))
              have bx := blk_below HBOX.out HBq11.out
              have bz := bx.1
              have bf := bx.2.2
              have b4 := bx.2.1 4 (by simp)
              clear bx
              refine wpAnyE_ready (rs := [12]) (by kernel_rfl) (by simp) (AllReadyE.last rfl (fun K hK => ?_))
              go_simp
              refine hK.out _ _ (trivial) (fun hHeld => ?_)
              clear hK K
              (try simp only [Act.put, List.getElem_toArray, List.getElem_cons_succ, List.getElem_cons_zero, List.setIfInBounds_toArray, List.set_cons_zero, List.set_cons_succ])
              refine wpAnyE_done (by kernel_rfl) ?_
              go_wp2_with fail
              go_ret
              exact HFIN.out _ g cap HBq11.out OWq11.out
end Go.Proofs.Ytdmidnmciaediaa
