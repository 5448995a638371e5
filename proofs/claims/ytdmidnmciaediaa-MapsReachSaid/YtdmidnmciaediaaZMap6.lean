/- Layer 27: the contracts of the document's longest, Reach; chapter 27's example. Conditions: what is asked reads as lists, and is not too great. -/
import Derived.Test.YtdmidnmciaediaaZMap4
import Derived.Test.YtdmidnmciaediaaZMapL
namespace Go.Proofs.Ytdmidnmciaediaa
open Go.RowKit
set_option linter.unusedVariables false
set_option linter.unusedSimpArgs false
attribute [local go_sem] over_cell over_frozen
def LonS (P : PrM) (Fx : FxM) (i : Nat) (NX : List Int) (m : Nat) : Prop := NX.Nodup ∧ (∀ x ∈ NX, metB P Fx i x = true) ∧ mxL (hI P Fx i) NX = m
theorem lonS_nil (P : PrM) (Fx : FxM) (i : Nat) : LonS P Fx i [] 0 := ⟨List.nodup_nil, (fun x hx => by cases hx), rfl⟩
theorem lonS_len {P : PrM} {Fx : FxM} {i : Nat} {NX : List Int} {m : Nat} (h : LonS P Fx i NX m) : NX.length ≤ (codeN P i).length :=
  nodup_lenI _ _ h.1 (fun x hx => by
    have q := met_form (h.2.1 x hx)
    rw [show ((i : Int).toNat) = i from rfl] at q
    exact ⟨q.2.2.2.1, q.2.2.2.2.1⟩)
theorem lonS_snoc {P : PrM} {Fx : FxM} {i : Nat} {NX : List Int} {m : Nat} {x : Int} (h : LonS P Fx i NX m) (hx : x ∉ NX) (hm : metB P Fx i x = true) : LonS P Fx i (NX ++ [x]) (max m (hI P Fx i x)) := by
  refine ⟨?_, fun y hy => ?_, by rw [mxL_snoc, h.2.2]⟩
  · rw [List.nodup_append]
    exact ⟨h.1, by simp, fun a ha b hb => by
      rw [List.mem_singleton] at hb
      subst hb
      exact fun e => hx (e ▸ ha)⟩
  · rcases List.mem_append.1 hy with q | q
    · exact h.2.1 y q
    · rw [List.mem_singleton] at q; subst q; exact hm
theorem lonS_in {P : PrM} {Fx : FxM} {i : Nat} {NX : List Int} {m : Nat} {x : Int} (h : LonS P Fx i NX m) (hx : x ∈ NX) : max m (hI P Fx i x) = m := by
  have := mxL_ge (g := hI P Fx i) NX x hx
  rw [h.2.2] at this
  omega
def LonN (P : PrM) (Fx : FxM) (i j n : Nat) (NN : List Int) : Prop := ∃ m, LonS P Fx i NN m ∧ n + m = hP P Fx i j
theorem lonN_next {P : PrM} {Fx : FxM} {i j n : Nat} {NN NX : List Int} (h : LonN P Fx i j n NN) (h0 : NN ≠ []) (hx : LonS P Fx i NX (mxL (sumI P Fx i) NN)) : LonN P Fx i j (n + 1) NX := by
  obtain ⟨m, h1, h2⟩ := h
  refine ⟨_, hx, ?_⟩
  have := mxL_succ (g := hI P Fx i) (g' := sumI P Fx i) NN h0 (fun t ht => hI_step (h1.2.1 t ht))
  rw [h1.2.2] at this
  omega
theorem lonN_end {P : PrM} {Fx : FxM} {i j n : Nat} {NN : List Int} (h : LonN P Fx i j n NN) (h0 : NN = [] ∨ (codeN P i).length ≤ n) : n = hP P Fx i j := by
  obtain ⟨m, h1, h2⟩ := h
  rcases h0 with rfl | q
  · have := h1.2.2; simp only [mxL] at this; omega
  · have := hP_le P Fx i j; omega
theorem rways_own (op x a b : Int) (k : Nat) (hk : k < 1000) (w : World) : Calls Try.prog 42 #[.agg #[.int .i64 op, .int .u64 x, .int .i64 a, .int .i64 b], .int .i64 k] w (RetJ w (waysI ⟨op, x, a, b⟩ k)) := by
  by_cases h12 : op = 12
  · subst h12
    rw [show waysI ⟨12, x, a, b⟩ k = [a] from rfl]
    go_enter Try.func42, Try.ntmps42
    go_wp2_with fail
    go_ret
    exact ⟨_, _, rfl, readI_lit [a] (by simp) (by simp), fun k hk => by (injection hk with hk; subst hk; exact ⟨by simp, by simp⟩), by (repeat' (first | exact Below.refl _ _ | assumption | refine b_alloc ?_ _ | refine b_over ?_ _ | refine b_drew ?_ | refine b_call ?_ (by assumption)))⟩
  · by_cases h13 : op = 13
    · subst h13
      rw [show waysI ⟨13, x, a, b⟩ k = [(k : Int) + 1, a] from rfl]
      clear h12
      go_enter Try.func42, Try.ntmps42
      go_wp2_with fail
      go_ret
      exact ⟨_, _, rfl, readI_lit [(k : Int) + 1, a] (by simp) (by simp), fun k hk => by (injection hk with hk; subst hk; exact ⟨by simp, by simp⟩), by (repeat' (first | exact Below.refl _ _ | assumption | refine b_alloc ?_ _ | refine b_over ?_ _ | refine b_drew ?_ | refine b_call ?_ (by assumption)))⟩
    · by_cases h15 : op = 15
      · subst h15
        rw [show waysI ⟨15, x, a, b⟩ k = [] from rfl]
        clear h12 h13
        go_enter Try.func42, Try.ntmps42
        go_wp2_with fail
        go_ret
        exact ⟨_, _, rfl, readI_nil _, fun k hk => by (cases hk), by (repeat' (first | exact Below.refl _ _ | assumption | refine b_alloc ?_ _ | refine b_over ?_ _ | refine b_drew ?_ | refine b_call ?_ (by assumption)))⟩
      · by_cases h35 : op = 35
        · subst h35
          rw [show waysI ⟨35, x, a, b⟩ k = [] from rfl]
          clear h12 h13 h15
          go_enter Try.func42, Try.ntmps42
          go_wp2_with fail
          go_ret
          exact ⟨_, _, rfl, readI_nil _, fun k hk => by (cases hk), by (repeat' (first | exact Below.refl _ _ | assumption | refine b_alloc ?_ _ | refine b_over ?_ _ | refine b_drew ?_ | refine b_call ?_ (by assumption)))⟩
        · rw [show waysI ⟨op, x, a, b⟩ k = [(k : Int) + 1] by unfold waysI; rw [if_neg h12, if_neg h13, if_neg (by simp only; omega)]]
          have n12 : (op == 12) = false := beq_false_of_ne h12
          have n13 : (op == 13) = false := beq_false_of_ne h13
          have n15 : (op == 15) = false := beq_false_of_ne h15
          have n35 : (op == 35) = false := beq_false_of_ne h35
          clear h12 h13 h15 h35
          go_enter Try.func42, Try.ntmps42
          go_wp2_with fail
          go_ret
          exact ⟨_, _, rfl, readI_lit [(k : Int) + 1] (by simp) (by simp), fun k hk => by (injection hk with hk; subst hk; exact ⟨by simp, by simp⟩), by (repeat' (first | exact Below.refl _ _ | assumption | refine b_alloc ?_ _ | refine b_over ?_ _ | refine b_drew ?_ | refine b_call ?_ (by assumption)))⟩
set_option maxRecDepth 100000 in
set_option maxHeartbeats 4000000 in
theorem long_any (p : PrV) (P : PrM) (v : Value) (Fx : FxM) (i j : Nat) (w : World) (h : ReadP w p P) (hsP : SmallP P) (hf : FacR w v Fx) (hi : i < P.fs.length) (hm : metB P Fx i j = true) : Calls Try.prog 85 #[aggP p, v, .int .i64 i, .int .i64 j, .int .i64 (codeN P i).length] w fun e w' => e = .returned (.int .i64 (hP P Fx i j)) ∧ Below w.heap.size w w' := by
  obtain ⟨va, vc, rfl, m2, m3⟩ := facR_form hf
  obtain ⟨u, ⟨ga, gn, gc⟩, m0, ⟨fa, fn, fc⟩⟩ := p
  have HM := Lib.hid (fun (x : Int) w' (hb : Below w.heap.size w w') => rmet_any ⟨u, ⟨ga, gn, gc⟩, m0, ⟨fa, fn, fc⟩⟩ P (.slice va Fx.length vc) Fx i x w' (readP_below h hb) (facR_below hf hb))
  obtain ⟨n1, n2, n3⟩ := fn_len h
  obtain ⟨b2, o2, ea, hb2, ⟨⟨pa, pn, pc⟩, ⟨la, ln, lc⟩, r, ⟨ca, cn, cc⟩⟩, hd, _, _, _, e3⟩ := fn_at h hi
  have HCOD : codeN P i = P.fs[i].code := by unfold codeN; rw [getD_at hi]
  have hsm := (hsP.a _ (List.getElem_mem hi)).c
  have hD : ReadR inE w (.slice ca cn cc) (codeN P i) := by rw [HCOD]; exact hd.c
  rw [← HCOD] at hsm
  obtain ⟨_, cap9, ec, hcc1, hcc2⟩ := readR_len hD
  injection ec with ec3 ec4 ec5
  clear ec3
  simp only at n1 n2 n3 ea e3
  subst n1
  subst ea
  have HST : Hid (LonN P Fx i j 0 [(j : Int)]) := Lib.hid ⟨_, ⟨by simp, (fun x hx => by rw [List.mem_singleton] at hx; subst hx; exact hm), rfl⟩, by simp only [mxL]; show 0 + max (hP P Fx i j) 0 = _; omega⟩
  obtain ⟨N, hN⟩ : ∃ N, N = (codeN P i).length := ⟨_, rfl⟩
  rw [ec4, ← hN] at e3 hD
  rw [← hN]
  have HD := Lib.hid hD
  have HN := Lib.hid hN
  have n9 : (N : Int) ≤ 100 := by omega
  have n8 : (0 : Int) ≤ N := by omega
  have ncc : (N : Int) ≤ cc := by omega
  have i0 : (0 : Int) ≤ i := by omega
  have i1 : (i : Int) < P.fs.length := by omega
  have ic : (i : Int) < fc := by omega
  have HE := Lib.hid (And.intro hb2 e3)
  obtain ⟨R, hR⟩ : ∃ R, R = hP P Fx i j := ⟨_, rfl⟩
  have HR := Lib.hid hR
  rw [← hR]
  clear h hf hsP hd HCOD hsm hD hN ec4 ec5 hcc1 hcc2 m2 m3 hb2 e3 hm hR
  unfold aggP Sl.v at *
  simp only at *
  go_enter Try.func85, Try.ntmps85
  go_upto_region 1 with fail
  refine wp_named ?_
  intro W hW
  have q1 : Blk W w.heap.size [.bool u, .slice ga gn gc, .int .i64 m0, .slice (some ⟨b2, o2, none⟩) P.fs.length fc] := by rw [hW]; exact blk_new _ _ _
  have q3 : Below w.heap.size w W := by rw [hW]; exact b_alloc (Below.refl _ _) _
  have HBW := Lib.hid q3
  have HK : Hid (∀ w', Below W.heap.size W w' → (w'.cell? ⟨w.heap.size, 0, none⟩ = some (.bool u) ∧ w'.cell? ⟨w.heap.size, 1, none⟩ = some (.slice ga gn gc) ∧ w'.cell? ⟨w.heap.size, 2, none⟩ = some (.int .i64 m0) ∧ w'.cell? ⟨w.heap.size, 3, none⟩ = some (.slice (some ⟨b2, o2, none⟩) P.fs.length fc)) ∧ w.heap.size < w'.heap.size) := Lib.hid (fun w' hb => by
    obtain ⟨y0, y1, y2, y3, _⟩ := blk4 (blk_below q1 hb); exact ⟨⟨y0, y1, y2, y3⟩, (blk_below q1 hb).1⟩)
  clear hW q1 q3
  go_upto_region 3 with fail
  refine wp_named ?_
  intro W1 hW1
  have HR1 : Hid (ReadI W1 (.slice (some ⟨W.heap.size, 0, none⟩) [(j : Int)].length 1) [(j : Int)]) := Lib.hid (by rw [hW1]; exact readI_lit [(j : Int)] rfl (by simp))
  have HB1 : Hid (Below W.heap.size W W1) := Lib.hid (by rw [hW1]; exact b_alloc (Below.refl _ _) _)
  clear hW1
  go_loopw [11, 12] (fun v x wr => ∃ (n : Nat) (NN : List Int) (a : Option Addr) (l c : Nat), x = .int .i64 n ∧ n ≤ N ∧ v = .slice a l c ∧ l = NN.length ∧ Hid (LonN P Fx i j n NN) ∧ Hid (ReadI wr (.slice a NN.length c) NN) ∧ Hid (Below W.heap.size W wr)) (fun _ x _ => N - (intOf x).toNat)
  case atStart => exact ⟨0, [(j : Int)], _, 1, 1, rfl, Nat.zero_le _, rfl, rfl, HST, HR1, HB1⟩
  case round =>
    obtain ⟨W2, hW2⟩ : ∃ x, x = wr := ⟨_, rfl⟩
    subst hW2
    obtain ⟨n, NN, na, _, nc, rfl, hnN, rfl, rfl, HLN, HRN, HB2⟩ := hrel
    have n0 : (0 : Int) ≤ n := by omega
    by_cases hnl : n < N
    · have hn1 : (n : Int) < N := by omega
      by_cases h0 : NN = []
      · have HEND : Hid (n = R) := Lib.hid (by rw [HR.out]; exact lonN_end HLN.out (Or.inl h0))
        have hl0 : ¬ ((0 : Int) < NN.length) := by rw [h0]; simp
        clear h0
        go_wp2_with fail
        go_ret
        exact ⟨by rw [HEND.out]; rfl, b_call HBW.out HB2.out⟩
      · have hl0 : (0 : Int) < NN.length := by have := List.length_pos_iff.2 h0; omega
        have HNE := Lib.hid h0
        have HNL : Hid (NN.length ≤ N) := Lib.hid (by obtain ⟨_, z, _⟩ := HLN.out; have := lonS_len z; have := HN.out; omega)
        have hnl9 : (NN.length : Int) ≤ 100 := by have := HNL.out; omega
        have HALL : Hid (∀ x ∈ NN, metB P Fx i x = true) := Lib.hid (by obtain ⟨_, z, _⟩ := HLN.out; exact z.2.1)
        clear h0
        go_wp2_with fail
        go_loopw [13, 31] (fun v x wr => ∃ (q : Nat) (NX : List Int) (a : Option Addr) (l c : Nat), x = .int .i64 q ∧ q ≤ NN.length ∧ v = .slice a l c ∧ l = NX.length ∧ Hid (LonS P Fx i NX (mxL (sumI P Fx i) (NN.take q))) ∧ Hid (OwnR intE 3 wr W2.heap.size (.slice a NX.length c) NX) ∧ Hid (Below W2.heap.size W2 wr)) (fun _ x _ => NN.length - (intOf x).toNat)
        case atStart => exact ⟨0, [], none, 0, 0, rfl, Nat.zero_le _, rfl, rfl, Lib.hid (lonS_nil _ _ _), Lib.hid (ownR_nil _ _), Lib.hid (Below.refl _ _)⟩
        case round =>
          obtain ⟨W3, hW3⟩ : ∃ x, x = wr := ⟨_, rfl⟩
          subst hW3
          obtain ⟨q, NX, xa, _, xc, rfl, hq, rfl, rfl, HLS, HOX, HB3⟩ := hrel
          have q0 : (0 : Int) ≤ q := by omega
          by_cases hql : q < NN.length
          · have q1 : (q : Int) < NN.length := by omega
            obtain ⟨bl, off, cp, e1, r1, r2, hbl, r4⟩ := readI_pos (readI_below HRN.out HB3.out) (by omega)
            injection e1 with e1 _ e3
            subst e1
            have hcx := r4 q hql
            rw [getD_at hql] at hcx
            have hmk := HALL.out _ (List.getElem_mem hql)
            have hfk := met_form hmk
            rw [show ((i : Int).toNat) = i from rfl] at hfk
            have HT : Hid (NN.take (q + 1) = NN.take q ++ [NN[q]]) := Lib.hid (List.take_succ_eq_append_getElem hql)
            generalize NN[q] = y at *
            obtain ⟨k, rfl⟩ : ∃ k : Nat, y = k := ⟨y.toNat, by omega⟩
            have hkl : k < (codeN P i).length := by omega
            have HKL := Lib.hid hkl
            have k0 : (0 : Int) ≤ k := by omega
            have k1 : (k : Int) < N := by have := HN.out; omega
            have kc : (k : Int) < cc := by omega
            have hb03 := b_call HBW.out (b_call HB2.out HB3.out)
            obtain ⟨⟨y0, y1, y2, y3⟩, yz⟩ := HK.out W3 (b_call HB2.out HB3.out)
            have d3 := ((bcell hb03).1 _ _ HE.out.1).trans HE.out.2
            have dz := Nat.lt_of_lt_of_le HE.out.1 hb03.size
            obtain ⟨bc, oc, ec, hbc, x0, x1, x2, x3⟩ := ins_at (readR_below HD.out hb03) hkl
            subst ec
            have HC := Lib.hid (fun w => rways_own (codeN P i)[k].op (codeN P i)[k].x (codeN P i)[k].a (codeN P i)[k].b k (by omega) w)
            have e9 : (⟨(codeN P i)[k].op, (codeN P i)[k].x, (codeN P i)[k].a, (codeN P i)[k].b⟩ : In4) = (codeN P i).getD k zIn := by rw [getD_at hkl]; rfl
            rw [e9] at HC
            obtain ⟨WL, hWL⟩ : ∃ WL, WL = waysI ((codeN P i).getD k zIn) k := ⟨_, rfl⟩
            rw [← hWL] at HC
            have HSK : Hid (sumI P Fx i k = mxL (stepI P Fx i k) WL) := Lib.hid (by rw [hWL]; rfl)
            have HOP : Hid (((codeN P i)[k]'hkl).op = ((codeN P i).getD k zIn).op) := Lib.hid (congrArg In4.op (getD_at hkl zIn).symm)
            have HWL : Hid (WL.length ≤ 2) := Lib.hid (by rw [hWL]; unfold waysI; repeat' split
                                                          all_goals simp)
            clear hWL e9 hfk hmk r4 r1 r2 e3
            generalize (codeN P i)[k].op = op at *
            generalize (codeN P i)[k].x = ix at *
            generalize (codeN P i)[k].a = ia at *
            generalize (codeN P i)[k].b = ib at *
            clear hkl
            go_wp2_with fail
            refine (HC.out _).mono ?_
            rintro e w4 ⟨wa, wcp, rfl, hro, how, hb4⟩
            have HWO : Hid (∀ g, (Value.slice wa WL.length wcp).ownBlock = some g → W3.heap.size ≤ g ∧ g < w4.heap.size) := Lib.hid how
            have HB4 := Lib.hid (b_call HB3.out hb4)
            have HO4 := Lib.hid (ownR_below HOX.out hb4)
            have HRW := Lib.hid hro
            have ho2 : WL.length ≤ wcp := (int_len (s := ⟨wa, WL.length, wcp⟩) hro).2.1
            have ho3 : (wcp : Int) ≤ 9223372036854775807 := by have := (int_len (s := ⟨wa, WL.length, wcp⟩) hro).2.2; simp only at this; omega
            have hol : (WL.length : Int) ≤ 2 := by have := HWL.out; omega
            have HXO : Hid (w4.heap.size ≤ w4.heap.size ∧ ∀ g, (Value.slice xa NX.length xc).ownBlock = some g → g < W3.heap.size ∨ w4.heap.size ≤ g) := Lib.hid ⟨Nat.le_refl _, fun g hg => Or.inl (ownR_lt HOX.out g hg).2⟩
            clear hb4 hro how x0 x1 x2 x3 hbc y0 y1 y2 y3 yz d3 dz hcx hbl hb03
            go_wp2_with fail
            go_loopw [13, 57] (fun v x wr => ∃ (t : Nat) (NX : List Int) (a : Option Addr) (l c : Nat), x = .int .i64 t ∧ t ≤ WL.length ∧ v = .slice a l c ∧ l = NX.length ∧ Hid (LonS P Fx i NX (max (mxL (sumI P Fx i) (NN.take q)) (mxL (stepI P Fx i k) (WL.take t)))) ∧ Hid (OwnR intE 3 wr W2.heap.size (.slice a NX.length c) NX) ∧ Hid (Below W2.heap.size W2 wr) ∧ Hid (ReadI wr (.slice wa WL.length wcp) WL) ∧ Hid (w4.heap.size ≤ wr.heap.size ∧ ∀ g, (Value.slice a NX.length c).ownBlock = some g → g < W3.heap.size ∨ w4.heap.size ≤ g)) (fun _ x _ => WL.length - (intOf x).toNat)
            case atStart => exact ⟨0, NX, xa, NX.length, xc, rfl, Nat.zero_le _, rfl, rfl, Lib.hid (by rw [List.take_zero]; show LonS P Fx i NX (max _ 0); rw [Nat.max_eq_left (Nat.zero_le _)]; exact HLS.out), HO4, HB4, HRW, HXO⟩
            case round =>
              obtain ⟨W5, hW5⟩ : ∃ x, x = wr := ⟨_, rfl⟩
              subst hW5
              obtain ⟨s, NY, ya, _, yc, rfl, hs, rfl, rfl, HLY, HOY, HB5, HRW5, HXO5⟩ := hrel
              have s0 : (0 : Int) ≤ s := by omega
              by_cases hsl : s < WL.length
              · have s1 : (s : Int) < WL.length := by omega
                have sc1 : (s : Int) < wcp := by omega
                obtain ⟨bw, ow, cw, e1, r1, r2, hbw, r4⟩ := readI_pos HRW5.out (by omega)
                injection e1 with e1 _ e3
                subst e1
                have hcx := r4 s hsl
                rw [getD_at hsl] at hcx
                have HT2 : Hid (WL.take (s + 1) = WL.take s ++ [WL[s]]) := Lib.hid (List.take_succ_eq_append_getElem hsl)
                generalize WL[s] = x at *
                have HMX : Hid (max (mxL (sumI P Fx i) (NN.take q)) (mxL (stepI P Fx i k) (WL.take (s + 1))) = max (max (mxL (sumI P Fx i) (NN.take q)) (mxL (stepI P Fx i k) (WL.take s))) (stepI P Fx i k x)) := Lib.hid (by rw [HT2.out, mxL_snoc, Nat.max_assoc])
                clear r4 r1 r2 e3
                by_cases h16 : op = 16
                · have t16 : (op != 16) = false := by rw [h16]; rfl
                  have HZ : Hid (stepI P Fx i k x = 0) := Lib.hid (by unfold stepI; rw [if_neg (fun z => z.1 (by rw [← HOP.out]; exact h16))])
                  clear h16
                  go_wp2_with fail
                  go_roundw
                  case rel => exact ⟨s + 1, NY, ya, _, yc, by first | rfl | go_num, by omega, rfl, rfl, Lib.hid (by rw [HMX.out, HZ.out, Nat.max_eq_left (Nat.zero_le _)]; exact HLY.out), HOY, HB5, HRW5, HXO5⟩
                  case measure => simp [intOf]; omega
                · have t16 : (op != 16) = true := bne_iff_ne.2 h16
                  have H16 := Lib.hid h16
                  clear h16
                  by_cases hkx : (k : Int) < x
                  · obtain ⟨⟨y0, y1, y2, y3⟩, yz⟩ := HK.out W5 (b_call HB2.out HB5.out)
                    obtain ⟨B, hB⟩ : ∃ B, B = metB P Fx i x := ⟨_, rfl⟩
                    have HBB := Lib.hid hB
                    have HMM := Lib.hid (HM.out x W5 (b_call HBW.out (b_call HB2.out HB5.out)))
                    rw [← hB] at HMM
                    clear hB
                    go_wp2_with fail
                    refine HMM.out.mono ?_
                    rintro e w6 ⟨rfl, hb6⟩
                    have HB6 := Lib.hid (b_call HB5.out hb6)
                    have HRW6 := Lib.hid (readI_below HRW5.out hb6)
                    have HXO6 : Hid (w4.heap.size ≤ w6.heap.size ∧ ∀ g, (Value.slice ya NY.length yc).ownBlock = some g → g < W3.heap.size ∨ w4.heap.size ≤ g) := Lib.hid ⟨Nat.le_trans HXO5.out.1 hb6.size, HXO5.out.2⟩
                    have HO6 := Lib.hid (ownR_below HOY.out hb6)
                    clear hb6 y0 y1 y2 y3 yz hbw hcx
                    cases B with
                    | false =>
                      have HZ : Hid (stepI P Fx i k x = 0) := Lib.hid (by unfold stepI; rw [if_neg (fun z => by rw [← HBB.out] at z; exact absurd z.2.2 (by decide))])
                      go_wp2_with fail
                      go_roundw
                      case rel => exact ⟨s + 1, NY, ya, _, yc, by first | rfl | go_num, by omega, rfl, rfl, Lib.hid (by rw [HMX.out, HZ.out, Nat.max_eq_left (Nat.zero_le _)]; exact HLY.out), HO6, HB6, HRW6, HXO6⟩
                      case measure => simp [intOf]; omega
                    | true =>
                      have HZ : Hid (stepI P Fx i k x = hI P Fx i x) := Lib.hid (by unfold stepI; rw [if_pos ⟨by rw [← HOP.out]; exact H16.out, hkx, HBB.out.symm⟩])
                      have HYL : Hid (NY.length ≤ N) := Lib.hid (by have := lonS_len HLY.out; have := HN.out; omega)
                      obtain ⟨D, hD⟩ : ∃ D, D = decide (x ∈ NY) := ⟨_, rfl⟩
                      have HDD := Lib.hid hD
                      have HHA := Lib.hid (rhas27_any (.slice ya NY.length yc) NY x w6 (readR_I (ownR_read HO6.out)) (by have := HYL.out; omega))
                      rw [← hD] at HHA
                      clear hD
                      go_wp2_with fail
                      refine HHA.out.mono ?_
                      rintro e w7 ⟨rfl, rfl⟩
                      cases D with
                      | true =>
                        go_wp2_with fail
                        go_roundw
                        case rel => exact ⟨s + 1, NY, ya, _, yc, by first | rfl | go_num, by omega, rfl, rfl, Lib.hid (by rw [HMX.out, HZ.out, lonS_in HLY.out (of_decide_eq_true HDD.out.symm)]; exact HLY.out), HO6, HB6, HRW6, HXO6⟩
                        case measure => simp [intOf]; omega
                      | false =>
                        have hbs := HB6.out.size
                        go_wp2_with (at_builtin; refine append1 (c := intE) rowInt (by rfl) _ _ (by rfl) (by rfl) (v := .slice ya NY.length yc) (L := NY) (B := W2.heap.size) (ownR_alloc HO6.out _) x _ 1 (by rfl) (blk_new9 rfl) ?c1 ?c2 ?c3 ?_; (case c1 => (have := HYL.out; omega)); (case c2 => (have := HYL.out; unfold maxLen; omega)); (case c3 => (simp; omega)); intro g9 cap9 w9 ho9 hg9 hor9 hl9; have HO9 := Lib.hid ho9; have HG9 := Lib.hid hg9; have HOR9 := Lib.hid hor9; clear ho9 hg9 hor9 hl9)
                        go_roundw
                        case rel =>
                          refine ⟨s + 1, NY ++ [x], some ⟨g9, 0, none⟩, NY.length + 1, cap9, by first | rfl | go_num, by omega, rfl, by simp, Lib.hid ?_, Lib.hid (by rw [List.length_append]; exact HO9.out), Lib.hid (b_ownR (b_alloc HB6.out _) (ownR_alloc HO6.out _) HG9.out), Lib.hid ?_, Lib.hid ⟨?_, ?_⟩⟩
                          · rw [HMX.out, HZ.out]
                            exact lonS_snoc HLY.out (of_decide_eq_false HDD.out.symm) HBB.out.symm
                          · refine readI_gb (readI_below HRW6.out (b_alloc (Below.refl _ _) _)) HG9.out (fun b hb e => ?_)
                            have z1 := HWO.out b hb
                            rcases HXO6.out.2 b e.symm with z2 | z2 <;> omega
                          · have z1 := HG9.out.size; have z2 := HXO6.out.1; simp only [World.size_alloc] at z1; omega
                          · intro b hb
                            injection hb with hb
                            subst hb
                            rcases HOR9.out with z | z
                            · exact HXO6.out.2 _ z
                            · refine Or.inr ?_
                              have := HXO6.out.1
                              simp only [World.size_alloc] at z
                              show w4.heap.size ≤ g9
                              omega
                        case measure => simp [intOf]; omega
                  · have HZ : Hid (stepI P Fx i k x = 0) := Lib.hid (by unfold stepI; rw [if_neg (fun z => hkx z.2.1)])
                    go_wp2_with fail
                    go_roundw
                    case rel => exact ⟨s + 1, NY, ya, _, yc, by first | rfl | go_num, by omega, rfl, rfl, Lib.hid (by rw [HMX.out, HZ.out, Nat.max_eq_left (Nat.zero_le _)]; exact HLY.out), HOY, HB5, HRW5, HXO5⟩
                    case measure => simp [intOf]; omega
              · have s1 : ¬ ((s : Int) < WL.length) := by omega
                go_wp2_with fail
                go_roundw
                case rel =>
                  refine ⟨_, _, _, _, _, ⟨q + 1, rfl, by omega, NY, ya, _, yc, rfl, rfl, Lib.hid ?_, HOY⟩, rfl, rfl, rfl, rfl, by first | rfl | go_num⟩
                  rw [HT.out, mxL_snoc, HSK.out]
                  have z := HLY.out
                  rw [show WL.take s = WL from List.take_of_length_le (by omega)] at z
                  exact z
                case measure => simp [intOf]; omega
          · have q1 : ¬ ((q : Int) < NN.length) := by omega
            have HNX : Hid (LonN P Fx i j (n + 1) NX) := Lib.hid (by
              have z := HLS.out
              rw [List.take_of_length_le (by omega)] at z
              exact lonN_next HLN.out HNE.out z)
            go_wp2_with fail
            go_roundw
            case rel => exact ⟨n + 1, NX, xa, _, xc, by first | rfl | go_num, by omega, rfl, rfl, HNX, Lib.hid (readR_I (ownR_read HOX.out)), Lib.hid (b_call HB2.out HB3.out)⟩
            case measure => simp [intOf]; omega
    · have hn1 : ¬ ((n : Int) < N) := by omega
      have HEND : Hid (n = R) := Lib.hid (by rw [HR.out]; exact lonN_end HLN.out (Or.inr (by have := HN.out; omega)))
      go_wp2_with fail
      go_ret
      exact ⟨by rw [HEND.out]; rfl, b_call HBW.out HB2.out⟩
set_option maxRecDepth 100000 in
set_option maxHeartbeats 2000000 in
theorem rreach_any (p : PrV) (P : PrM) (v : Value) (Fx : FxM) (f a : Int) (w : World) (h : ReadP w p P) (hsP : SmallP P) (hf : FacR w v Fx) : Calls Try.prog 46 #[aggP p, v, .int .i64 f, .int .i64 a] w fun e w' => e = .returned (.int .i64 (reachM P Fx f a)) ∧ Below w.heap.size w w' := by
  obtain ⟨va, vc, rfl, m2, m3⟩ := facR_form hf
  obtain ⟨n1, n2, n3⟩ := fn_len h
  obtain ⟨u, ⟨ga, gn, gc⟩, m0, ⟨fa, fn, fc⟩⟩ := p
  have HV := Lib.hid (fun w' (hb : Below w.heap.size w w') => rmet_any ⟨u, ⟨ga, gn, gc⟩, m0, ⟨fa, fn, fc⟩⟩ P (.slice va Fx.length vc) Fx f a w' (readP_below h hb) (facR_below hf hb))
  have HF := Lib.hid (fun (i j : Nat) (hi : i < P.fs.length) (hm : metB P Fx i j = true) w' (hb : Below w.heap.size w w') => long_any ⟨u, ⟨ga, gn, gc⟩, m0, ⟨fa, fn, fc⟩⟩ P (.slice va Fx.length vc) Fx i j w' (readP_below h hb) hsP (facR_below hf hb) hi hm)
  obtain ⟨B, hB⟩ : ∃ B, B = metB P Fx f a := ⟨_, rfl⟩
  have HBB := Lib.hid hB
  have HR := Lib.hid h
  rw [← hB] at HV
  simp only at n1 n2 n3
  subst n1
  clear h hf hB m2 m3 hsP
  unfold aggP Sl.v at *
  simp only at *
  go_enter Try.func46, Try.ntmps46
  go_upto_region 1 with fail
  refine wp_named ?_
  intro W hW
  have q1 : Blk W w.heap.size [.bool u, .slice ga gn gc, .int .i64 m0, .slice fa P.fs.length fc] := by rw [hW]; exact blk_new _ _ _
  have q3 : Below w.heap.size w W := by rw [hW]; exact b_alloc (Below.refl _ _) _
  have HQ := Lib.hid q1
  have HBW := Lib.hid q3
  obtain ⟨y0, y1, y2, y3, _⟩ := blk4 q1
  have yz := q1.1
  clear hW q1 q3
  go_wp2_with fail
  refine (HV.out W HBW.out).mono ?_
  rintro e w1 ⟨rfl, hb1⟩
  have HB1 := Lib.hid hb1
  clear hb1 y0 y1 y2 y3 yz
  cases B with
  | false =>
    have HE : Hid (reachM P Fx f a = 0) := Lib.hid (by unfold reachM; rw [← HBB.out]; rfl)
    go_wp2_with fail
    go_ret
    exact ⟨by rw [HE.out]; rfl, b_call HBW.out HB1.out⟩
  | true =>
    have hm := met_form HBB.out.symm
    obtain ⟨i, rfl⟩ : ∃ i : Nat, f = i := ⟨f.toNat, by omega⟩
    obtain ⟨j, rfl⟩ : ∃ j : Nat, a = j := ⟨a.toNat, by omega⟩
    have HE : Hid (reachM P Fx i j = hP P Fx i j) := Lib.hid (by unfold reachM; rw [← HBB.out]; rfl)
    have hi : i < P.fs.length := by omega
    obtain ⟨b2, o2, ea, hb2, ⟨⟨pa, pn, pc⟩, ⟨la, ln, lc⟩, r, ⟨ca, cn, cc⟩⟩, hd, _, _, _, e3⟩ := fn_at HR.out hi
    have HCOD : codeN P i = P.fs[i].code := by unfold codeN; rw [getD_at hi]
    have hD : ReadR inE w (.slice ca cn cc) (codeN P i) := by rw [HCOD]; exact hd.c
    obtain ⟨_, cap9, ec, hcc1, hcc2⟩ := readR_len hD
    injection ec with ec3 ec4 ec5
    clear ec3
    simp only at ea e3
    subst ea
    have HFF := Lib.hid (HF.out i j hi HBB.out.symm)
    obtain ⟨N, hN⟩ : ∃ N, N = (codeN P i).length := ⟨_, rfl⟩
    rw [ec4, ← hN] at e3
    rw [← hN] at HFF
    have hbw := b_call HBW.out HB1.out
    have d3 := ((bcell hbw).1 _ _ hb2).trans e3
    have dz := Nat.lt_of_lt_of_le hb2 hbw.size
    obtain ⟨y0, y1, y2, y3, _⟩ := blk4 (blk_below HQ.out HB1.out)
    have yz := (blk_below HQ.out HB1.out).1
    have i0 : (0 : Int) ≤ i := by omega
    have i1 : (i : Int) < P.fs.length := by omega
    have ic : (i : Int) < fc := by omega
    have HBW1 := Lib.hid hbw
    clear hm hd HCOD hD hcc1 hcc2 ec4 ec5 hN e3 hb2 hbw HF HV HR
    go_upto_region 3 with fail
    refine wp_region_over_lit (by kernel_rfl) (by kernel_rfl) ?_
    repeat (quiet_step ((go_at_call 85; exact over_call (HFF.out _ (b_over HBW1.out _)))))
    refine wpQuiet_nil ?_
    intro w3 hb3; replace hb3 := over_elim hb3; obtain ⟨hc3, hf3⟩ := bcell hb3; have hz3 := hb3.size; try simp only [World.size_alloc, World.size_setCell, World.size_drew] at hz3
    go_wp2_with fail
    go_ret
    exact ⟨by rw [HE.out]; rfl, b_call HBW1.out hb3⟩
/-- The program's Check, its facts as rows. -/
theorem vcheck_fx (p : PrV) (P : PrM) (w : World) (h : ReadP w p P) (hP : SmallP P) : Calls Try.prog 39 #[aggP p] w fun e w' => ∃ a c x y z, e = .returned (.tuple #[.slice a (factsOf (checkM P)).length c, .agg #[.int .i64 x, .int .i64 y, .int .i64 z]]) ∧ FacR w' (.slice a (factsOf (checkM P)).length c) (factsOf (checkM P)) ∧ ((∃ Ms, checkM P = .inl Ms) → x = 0 ∧ y = 0 ∧ z = 0) ∧ ((∀ Ms, checkM P ≠ .inl Ms) → z ≠ 0) ∧ Below w.heap.size w w' := by
  have hok := fxOk_check hP
  refine (vcheck_any p P w h).mono ?_
  cases hC : checkM P with
  | inr x =>
    rintro e w' ⟨he, hb⟩
    have he : e = .returned (.tuple #[.slice none 0 0, wrongV x.1 x.2.1 x.2.2]) := he
    subst he
    exact ⟨none, 0, x.1, x.2.1, x.2.2, rfl, ⟨[], readR_nil _, rfl, fun k hk => absurd hk (Nat.not_lt_zero _)⟩, (fun ⟨Ms, h⟩ => by cases h), (fun _ => checkM_code hC), hb⟩
  | inl Ms =>
    rintro e w' ⟨⟨a, c, L, rfl, hL, hA⟩, hb⟩
    obtain ⟨_, hl, hall⟩ := checkM_all hC
    have hlen : (factsOf (.inl Ms)).length = L.length := by show (Ms.map fxM).length = _; rw [List.length_map, hA.1]
    rw [hlen]
    refine ⟨a, c, 0, 0, 0, rfl, allR_facR hL hA (fun M hM => ?_), fun _ => ⟨rfl, rfl, rfl⟩, fun h => absurd rfl (h Ms), hb⟩
    obtain ⟨k, hk, rfl⟩ := List.getElem_of_mem hM
    have hk2 : k < P.fs.length := by omega
    rw [(hall k hk2 hk).len]
    have := (hP.a _ (List.getElem_mem hk2)).c
    omega
def cA27 : List In4 := [⟨1, 0, 0, 0⟩, ⟨15, 0, 0, 0⟩]
theorem reach27 : reachM (oneP cA27) (factsOf (checkM (oneP cA27))) 0 0 = 2 := by rfl
theorem most27 : mxAll (oneP cA27) (factsOf (checkM (oneP cA27))) = 2 := by rfl
theorem small27 : SmallP (oneP cA27) := ⟨by decide, by decide, fun f hf => by
  rw [show (oneP cA27).fs = [⟨[], [], 0, cA27⟩] from rfl, List.mem_singleton] at hf
  subst hf
  exact ⟨by decide, by decide, by decide⟩⟩
set_option maxRecDepth 100000 in
set_option maxHeartbeats 2000000 in
theorem awake27 (w : World) : Calls Try.prog 52 #[] w fun e w' => e = .returned (.bool true) ∧ Below w.heap.size w w' := by
  have r1 := row_lit w #[.int .i64 1, .int .u64 0, .int .i64 0, .int .i64 0, .int .i64 15, .int .u64 0, .int .i64 0, .int .i64 0] cA27 rfl rfl (by decide)
  obtain ⟨w1, hw1⟩ : ∃ w1, w1 = w.alloc (.cells #[.int .i64 1, .int .u64 0, .int .i64 0, .int .i64 0, .int .i64 15, .int .u64 0, .int .i64 0, .int .i64 0] 123) := ⟨_, rfl⟩
  rw [← hw1] at r1
  have r2 := readR_new (c := fnE) w1 122 ⟨⟨none, 0, 0⟩, ⟨none, 0, 0⟩, 0, ⟨some ⟨w.heap.size, 0, none⟩, 2, 2⟩⟩
  obtain ⟨w2, hw2⟩ : ∃ w2, w2 = w1.alloc (.cells (fnE.cells ⟨⟨none, 0, 0⟩, ⟨none, 0, 0⟩, 0, ⟨some ⟨w.heap.size, 0, none⟩, 2, 2⟩⟩).toArray 122) := ⟨_, rfl⟩
  rw [← hw2] at r2
  have s1 : w1.heap.size = w.heap.size + 1 := by rw [hw1, World.size_alloc]
  have s2 : w2.heap.size = w.heap.size + 1 + 1 := by rw [hw2, World.size_alloc, s1]
  have b1 : Below w.heap.size w w1 := by rw [hw1]; exact b_alloc (Below.refl _ _) _
  have b2 : Below w1.heap.size w1 w2 := by rw [hw2]; exact b_alloc (Below.refl _ _) _
  rw [s1] at r2
  have HP : Hid (∀ W, Below w2.heap.size w2 W → ReadP W ⟨false, ⟨none, 0, 0⟩, 0, ⟨some ⟨w.heap.size + 1, 0, none⟩, 1, 1⟩⟩ (oneP cA27) ∧ Below w.heap.size w W) := Lib.hid (fun W hb =>
    ⟨⟨rfl, readI_nil _, rfl, _, readR_below r2 hb, ⟨readI_nil _, readI_nil _, rfl, readR_below r1 (b_call b2 hb)⟩, trivial⟩, b_call (b_call b1 b2) hb⟩)
  have HW : Hid (∀ W, W = (((w.alloc (.cells #[.int .i64 1, .int .u64 0, .int .i64 0, .int .i64 0, .int .i64 15, .int .u64 0, .int .i64 0, .int .i64 0] 123)).alloc (.cells #[.slice none 0 0, .slice none 0 0, .int .i64 0, .slice (some ⟨w.heap.size, 0, none⟩) 2 2] 122)).alloc (.cells #[.bool false, .slice none 0 0, .int .i64 0, .slice (some ⟨w.heap.size + 1, 0, none⟩) 1 1] 31)) → Blk W (w.heap.size + 1 + 1) [.bool false, .slice none 0 0, .int .i64 0, .slice (some ⟨w.heap.size + 1, 0, none⟩) 1 1] ∧ Below w2.heap.size w2 W) := Lib.hid (fun W hW => by
    rw [← hw1] at hW
    have e : (w1.alloc (.cells #[.slice none 0 0, .slice none 0 0, .int .i64 0, .slice (some ⟨w.heap.size, 0, none⟩) 2 2] 122)) = w2 := by rw [hw2]; rfl
    rw [e] at hW
    rw [hW]
    exact ⟨blk_new9 s2.symm, b_alloc (Below.refl _ _) _⟩)
  clear r1 r2 s1 s2 b1 b2 hw1 hw2
  go_enter Try.func52, Try.ntmps52
  go_upto_region 2 with fail
  refine wp_named ?_
  intro W hW
  obtain ⟨BX, BB⟩ := HW.out W hW
  obtain ⟨RP, B0⟩ := HP.out W BB
  have HBX := Lib.hid BX; have HRP := Lib.hid RP; have HB0 := Lib.hid B0
  obtain ⟨y0, y1, y2, y3, _⟩ := blk4 BX
  have yz := BX.1
  clear hW BX BB RP B0 HW HP
  have HC := Lib.hid (vcheck_fx ⟨false, ⟨none, 0, 0⟩, 0, ⟨some ⟨w.heap.size + 1, 0, none⟩, 1, 1⟩⟩ (oneP cA27) W HRP.out small27)
  have e1 := reach27
  have e2 := most27
  obtain ⟨Fx, hFx⟩ : ∃ Fx, Fx = factsOf (checkM (oneP cA27)) := ⟨_, rfl⟩
  rw [← hFx] at HC e1 e2
  have HE1 := Lib.hid e1; have HE2 := Lib.hid e2
  clear hFx e1 e2
  unfold aggP Sl.v at HC
  simp only at HC
  go_wp2_with fail
  refine HC.out.mono ?_
  rintro e w3 ⟨a, c, x, y, z, rfl, hf, _, _, hb3⟩
  have HF := Lib.hid hf
  have HB3 := Lib.hid hb3
  clear hf hb3 y0 y1 y2 y3 yz
  go_upto_region 3 with fail
  refine wp_named ?_
  intro W4 hW4
  have S4 : Below w3.heap.size w3 W4 := by
    first
    | (rw [hW4]; exact b_alloc (Below.refl _ _) _)
    | exact (store3 rfl hW4).2
  have HB4 := Lib.hid (b_call HB3.out S4)
  have HR1 := Lib.hid (mreach_any ⟨false, ⟨none, 0, 0⟩, 0, ⟨some ⟨w.heap.size + 1, 0, none⟩, 1, 1⟩⟩ (oneP cA27) (.slice a (List.length Fx) c) Fx 0 0 W4 (readP_below HRP.out HB4.out) small27 (facR_below HF.out S4))
  have HR2 := Lib.hid (fun w' (hb : Below W4.heap.size W4 w') => mmost_any ⟨false, ⟨none, 0, 0⟩, 0, ⟨some ⟨w.heap.size + 1, 0, none⟩, 1, 1⟩⟩ (oneP cA27) (.slice a (List.length Fx) c) Fx w' (readP_below HRP.out (b_call HB4.out hb)) small27 (facR_below HF.out (b_call S4 hb)))
  have e3 : (((mxAll (oneP cA27) Fx) : Nat) : Int) = 2 := by rw [HE2.out]; rfl
  rw [HE1.out] at HR1
  rw [e3] at HR2
  unfold aggP Sl.v at HR1 HR2
  simp only at HR1 HR2
  obtain ⟨y0, y1, y2, y3, _⟩ := blk4 (blk_below HBX.out HB4.out)
  have yz := (blk_below HBX.out HB4.out).1
  clear hW4 S4 e3
  go_wp2_with fail
  refine HR1.out.mono ?_
  rintro e w5 ⟨rfl, hb5⟩
  have HB5 := Lib.hid hb5
  have HB45 := Lib.hid (b_call HB4.out hb5)
  clear hb5 y0 y1 y2 y3 yz
  obtain ⟨y0, y1, y2, y3, _⟩ := blk4 (blk_below HBX.out HB45.out)
  have yz := (blk_below HBX.out HB45.out).1
  go_wp2_with fail
  refine (HR2.out _ HB5.out).mono ?_
  rintro e w6 ⟨rfl, hb6⟩
  have HB6 := Lib.hid (b_call HB45.out hb6)
  clear hb6 y0 y1 y2 y3 yz
  go_wp2_with fail
  refine (msafe_any 16 _).mono ?_
  rintro e w7 ⟨rfl, hb7⟩
  have HB7 := Lib.hid (b_call HB6.out hb7)
  rw [show safeB 16 = true from rfl]
  clear hb7
  go_wp2_with fail
  go_ret
  exact ⟨rfl, b_call HB0.out HB7.out⟩
end Go.Proofs.Ytdmidnmciaediaa
