/- Layer 28: the contract of the law's fit, where values are fitted. Conditions: those stated. Layer 28: the contract of the law's fit, where values are fitted. Conditions: those stated. Layer 28: the contract of the law's fit, where values are fitted. Conditions: those stated. Layer 28: the contract of the law's fit, where values are fitted. Conditions: those stated. -/
import Derived.Test.YtdmidnmciaediaaWFrZ
import Derived.BigQuiet
namespace Go.Proofs.Ytdmidnmciaediaa
section
open Go.RowKit
set_option linter.unusedVariables false
set_option linter.unusedSimpArgs false
attribute [local go_sem] over_cell over_frozen
variable {w0 w w' : World} {r : Nat} {q : PrV} {lv : Sl} {L : List FrM} {m : FrM}
theorem blk7z {w : World} {g : Nat} {u0 u1 u2 u3 u4 u5 u6 : Value} (h : Blk w g [u0, u1, u2, u3, u4, u5, u6]) : w.cell? ⟨g, 0, none⟩ = some u0 ∧ w.cell? ⟨g, 1, none⟩ = some u1 ∧ w.cell? ⟨g, 2, none⟩ = some u2 ∧ w.cell? ⟨g, 3, none⟩ = some u3 ∧ w.cell? ⟨g, 4, none⟩ = some u4 ∧ w.cell? ⟨g, 5, none⟩ = some u5 ∧ w.cell? ⟨g, 6, none⟩ = some u6 ∧ ∀ i, w.frozen? ⟨g, i, none⟩ = false :=
  ⟨h.2.1 0 (by simp), h.2.1 1 (by simp), h.2.1 2 (by simp), h.2.1 3 (by simp), h.2.1 4 (by simp), h.2.1 5 (by simp), h.2.1 6 (by simp), h.2.2⟩
set_option maxRecDepth 100000 in
set_option maxHeartbeats 16000000 in
theorem lfit_n1 {P : PrM} (h : DocF w0 w r q lv L) (hP : ReadP w0 q P) (hL : L.length ≤ 24) (o : OpM) {a : Option Addr} {c : Nat} (ha : ReadR valE w (.slice a o.args.length c) o.args) (hf : o.fit = true) (hn : o.kind = 0 ∧ o.f < 0) : Calls Try.prog 63 #[rp r, aggOp o.kind o.f o.k o.v a o.args.length c o.fit] w (FitEnd w a c o.args (fitM P L o)) := by
  have HDD := Lib.hid h
  have HL := Lib.hid hL
  have HA := Lib.hid ha
  obtain ⟨fl1, fl2, fl3⟩ := fns_len hP
  have fl4 := cap_le fl3
  have b3' := h.hd.2.1 3 (by simp)
  simp only [List.getElem_cons_succ, List.getElem_cons_zero] at b3'
  rw [fl1] at b3'
  have bz' := h.hd.1
  obtain ⟨kd, f, k, ⟨vk, vb⟩, A, ft⟩ := o
  simp only at hf hn HA
  subst hf
  have HFINK : Hid (¬ (kd = 6 ∧ (locM L k).2 = 0) → ∀ w', Below w.heap.size w w' → FitEnd w a c A (fitM P L ⟨kd, f, k, ⟨vk, vb⟩, A, true⟩) (.returned (.agg #[.int .i64 kd, .int .i64 f, .int .i64 k, .int .i64 vk, .int .u64 vb, .slice a A.length c, .bool true])) w') := Lib.hid (fun h6 w' hb => by
    have e : fitM P L ⟨kd, f, k, ⟨vk, vb⟩, A, true⟩ = ⟨kd, f, k, ⟨vk, vb⟩, A, true⟩ := by simp only [fitM]; rw [if_neg (by simp), if_neg (show ¬ (kd = 0 ∧ 0 ≤ f ∧ f < P.fs.length) by omega), if_neg h6]
    rw [e]; exact ⟨a, c, rfl, readR_below HA.out hb, hb, Or.inl ⟨rfl, rfl, rfl⟩⟩)
  have HFINS : Hid (kd = 6 ∧ (locM L k).2 = 0 → ∀ w', Below w.heap.size w w' → FitEnd w a c A (fitM P L ⟨kd, f, k, ⟨vk, vb⟩, A, true⟩) (.returned (.agg #[.int .i64 kd, .int .i64 f, .int .i64 k, .int .i64 (locM L k).1.k, .int .u64 vb, .slice a A.length c, .bool true])) w') := Lib.hid (fun h6 w' hb => by
    have e : fitM P L ⟨kd, f, k, ⟨vk, vb⟩, A, true⟩ = ⟨kd, f, k, ⟨(locM L k).1.k, vb⟩, A, true⟩ := by simp only [fitM]; rw [if_neg (by simp), if_neg (show ¬ (kd = 0 ∧ 0 ≤ f ∧ f < P.fs.length) by omega), if_pos h6]
    rw [e]; exact ⟨a, c, rfl, readR_below HA.out hb, hb, Or.inl ⟨rfl, rfl, rfl⟩⟩)
  have HN := Lib.hid hn
  clear h hP hL ha fl1 fl2 fl3 hn
  unfold rp aggOp
  simp only
  go_enter Try.func63, Try.ntmps63
  go_upto_region 3 with fail
  refine wp_named ?_
  intro W hW
  have HBX : Hid (Blk W w.heap.size [.int .i64 kd, .int .i64 f, .int .i64 k, .int .i64 vk, .int .u64 vb, .slice a A.length c, .bool true]) := Lib.hid (by rw [hW]; exact (boxF2 _ _ _ _ _).1)
  have HRS : Hid (Blk W (w.heap.size + 1) [.int .i64 0, .int .i64 0, .int .i64 0, .int .i64 0, .int .u64 0, .slice none 0 0, .bool false]) := Lib.hid (by rw [hW]; exact (boxF2 _ _ _ _ _).2.1)
  have HBW : Hid (Below w.heap.size w W) := Lib.hid (by rw [hW]; exact (boxF2 _ _ _ _ _).2.2)
  have b3q := ((bcell HBW.out).1 _ _ bz').trans b3'
  have bzq := Nat.lt_of_lt_of_le bz' HBW.out.size
  obtain ⟨b0, b1, b2, b3, b4, b5, b6, bf⟩ := blk7z HBX.out
  have bz := HBX.out.1
  clear hW b3' bz'
  obtain ⟨h0, h1⟩ := HN.out
  have HH6 := Lib.hid (show ∀ ec : Int, ¬ (kd = 6 ∧ ec = 0) from fun ec z => by omega)
  have h01 : (kd == 0) = true := beq_iff_eq.2 h0
  have h61 : (kd == 6) = false := beq_false_of_ne (by omega)
  clear h0
  have h11 : ¬ (0 ≤ f) := by omega
  go_big_quiet (fail)
  obtain ⟨W1, hW1⟩ : ∃ x, x = W.drewN nq := ⟨_, rfl⟩
  rw [← hW1]
  have hbD : Below W.heap.size W W1 := by rw [hW1]; exact b_drewN (Below.refl _ _) _
  replace HBX := Lib.hid (blk_below HBX.out hbD)
  replace HRS := Lib.hid (blk_below HRS.out hbD)
  replace HBW := Lib.hid (b_call HBW.out hbD)
  clear hW1 hbD b0 b1 b2 b3 b4 b5 b6 bf bz b3q bzq
  obtain ⟨b0, b1, b2, b3, b4, b5, b6, bf⟩ := blk7z HBX.out
  have bz := HBX.out.1
  go_wp2_with fail
  refine (rloc_all (doc_below HDD.out HBW.out) HL.out k).mono ?_
  rintro e w3 ⟨rfl, hb3⟩
  have HBW3 := Lib.hid (b_call HBW.out hb3)
  have HBX3 := Lib.hid (blk_below HBX.out hb3)
  have HRS3 := Lib.hid (blk_below HRS.out hb3)
  have HBT3 := Lib.hid hb3
  clear hb3 b0 b1 b2 b3 b4 b5 b6 bf bz
  revert HFINS HFINK
  generalize (locM L k).2 = ec
  generalize (locM L k).1 = x
  obtain ⟨xk, xb⟩ := x
  intro HFINK HFINS
  unfold aggV
  simp only
  go_upto_region 15 with fail
  refine wp_named ?_
  intro W4 hW4
  have HX4 : Hid (Blk W4 w3.heap.size [.int .i64 xk, .int .u64 xb]) := Lib.hid (by rw [hW4]; exact blk_new _ _ _)
  have HB4 : Hid (Below w3.heap.size w3 W4) := Lib.hid (by rw [hW4]; exact b_alloc (Below.refl _ _) _)
  have HBX4 := Lib.hid (blk_below HBX3.out HB4.out)
  have HRS4 := Lib.hid (blk_below HRS3.out HB4.out)
  have HBW4 := Lib.hid (b_call HBW3.out HB4.out)
  have HBT4 := Lib.hid (b_call HBT3.out HB4.out)
  obtain ⟨b0, b1, b2, b3, b4, b5, b6, bf⟩ := blk7z HBX4.out
  have bz := HBX4.out.1
  clear hW4
  obtain ⟨r0, r1, r2, r3, r4, r5, r6, rf⟩ := blk7z HRS4.out
  have rz := HRS4.out.1
  go_wp2_with fail
  refine post_named ?_
  intro w9 hw9
  have g9 : W4.grownBy w9 (some (w.heap.size + 1)) := by rw [hw9]; exact gb_set (gb_set (gb_set (gb_set (gb_set (gb_set (gb_set (gb_refl W4 (some (w.heap.size + 1))) 0 none (.int .i64 kd)) 1 none (.int .i64 f)) 2 none (.int .i64 k)) 3 none (.int .i64 vk)) 4 none (.int .u64 vb)) 5 none (.slice a A.length c)) 6 none (.bool true)
  have u9 : Blk w9 (w.heap.size + 1) [.int .i64 kd, .int .i64 f, .int .i64 k, .int .i64 vk, .int .u64 vb, .slice a A.length c, .bool true] := by rw [hw9]; exact blk_set (blk_set (blk_set (blk_set (blk_set (blk_set (blk_set (HRS4.out) 0 (.int .i64 kd)) 1 (.int .i64 f)) 2 (.int .i64 k)) 3 (.int .i64 vk)) 4 (.int .u64 vb)) 5 (.slice a A.length c)) 6 (.bool true)
  obtain ⟨u0, u1, u2, u3, u4, u5, u6, uf⟩ := blk7z u9
  clear hw9 u9
  exact bodyPost_ret (v := .agg #[.int .i64 kd, .int .i64 f, .int .i64 k, .int .i64 vk, .int .u64 vb, .slice a A.length c, .bool true]) (by simp [results, Try.results63, go_sem, u0, u1, u2, u3, u4, u5, u6]) rfl (HFINK.out (HH6.out _) _ (b_grown HBW4.out g9 (by omega)))
end
section
open Go.RowKit
set_option linter.unusedVariables false
set_option linter.unusedSimpArgs false
attribute [local go_sem] over_cell over_frozen
variable {w0 w w' : World} {r : Nat} {q : PrV} {lv : Sl} {L : List FrM} {m : FrM}
def fitG (ps : List Int) (A : List ValM) (i : Nat) : ValM := ⟨ps.getD i 0, if i < A.length then (A.getD i ⟨0, 0⟩).b else 0⟩
theorem fitG_in {ps : List Int} {A : List ValM} {i : Nat} (h : i < A.length) : fitG ps A i = ⟨ps.getD i 0, A[i].b⟩ := by
  unfold fitG
  rw [if_pos h, getD_at9 h]
theorem fitG_out {ps : List Int} {A : List ValM} {i : Nat} (h : ¬ i < A.length) : fitG ps A i = ⟨ps.getD i 0, 0⟩ := by
  unfold fitG
  rw [if_neg h]
theorem fitA_length (ps : List Int) (A : List ValM) : (fitA ps A).length = ps.length := by simp [fitA]
set_option maxRecDepth 100000 in
set_option maxHeartbeats 16000000 in
theorem lfit_call {P : PrM} (h : DocF w0 w r q lv L) (hP : ReadP w0 q P) (hS : SmallP P) (hL : L.length ≤ 24) (o : OpM) {a : Option Addr} {c : Nat} (ha : ReadR valE w (.slice a o.args.length c) o.args) (hf : o.fit = true) (j : Nat) (hj : o.f = j) (hk0 : o.kind = 0) (hk : j < P.fs.length) : Calls Try.prog 63 #[rp r, aggOp o.kind o.f o.k o.v a o.args.length c o.fit] w (FitEnd w a c o.args (fitM P L o)) := by
  have HDD := Lib.hid h
  have HL := Lib.hid hL
  have HA := Lib.hid ha
  obtain ⟨fl1, fl2, fl3⟩ := fns_len hP
  have fl4 := cap_le fl3
  have b3' := h.hd.2.1 3 (by simp)
  simp only [List.getElem_cons_succ, List.getElem_cons_zero] at b3'
  rw [fl1] at b3'
  have bz' := h.hd.1
  obtain ⟨pb, po, epa, fz0, ⟨⟨pa, pn, pc⟩, ⟨la9, ln, lc⟩, rr, ⟨ca, cn, cc⟩⟩, hd, f0, f1, f2, f3⟩ := fnF_at hP hk
  rw [epa] at b3'
  simp only at f0
  have fz := Nat.lt_of_lt_of_le fz0 h.be.size
  replace f0 := ((bcell h.be).1 _ _ fz0).trans f0
  obtain ⟨_, pcap, epv, hp1, hp2⟩ := readI_len9 hd.p
  simp only at epv hp1 hp2
  have hRP := readI_below hd.p h.be
  have hps := (hS.a _ (List.getElem_mem hk)).p
  obtain ⟨kd, f, k, ⟨vk, vb⟩, A, ft⟩ := o
  simp only at hf hj hk0 HA ha
  subst hf
  subst hj
  obtain ⟨ps, hpsE⟩ : ∃ ps, ps = P.fs[j].ps := ⟨_, rfl⟩
  have HM : Hid (¬ (kd = 6 ∧ (locM L k).2 = 0) → fitM P L ⟨kd, j, k, ⟨vk, vb⟩, A, true⟩ = ⟨kd, j, k, ⟨vk, vb⟩, fitA ps A, true⟩) := Lib.hid (fun h6 => by simp only [fitM]; rw [if_neg (by simp), if_neg h6, if_pos ⟨hk0, by omega, by omega⟩, hpsE, Int.toNat_natCast, getD_at9 hk])
  rw [← hpsE] at hps hRP epv hp1
  subst epv
  have HRP : Hid (ReadI w (.slice pa ps.length pc) ps) := Lib.hid hRP
  have HK0 := Lib.hid hk0
  obtain ⟨_, cA, eA, hA1, hA2⟩ := readR_len ha
  injection eA with eA1 eA2 eA3
  have hAc := cap_le hA2
  have hpc1 : (ps.length : Int) ≤ pc := by omega
  have k0 : (0 : Int) ≤ j := by omega
  have k1 : (j : Int) < P.fs.length := by omega
  have kc : (j : Int) < q.f.c := by omega
  have nps : (ps.length : Int) ≤ 10 := by omega
  have nA : (A.length : Int) ≤ c := by omega
  have ncc : (c : Int) ≤ 9223372036854775807 := by omega
  clear h hP hS hL ha hk hRP hps hd hpsE fl1 fl2 fl3 epa hp1 hp2 fz0 hk0 eA1 eA2 eA3 hA1 hA2 f1 f2 f3 hAc
  unfold rp aggOp
  simp only
  go_enter Try.func63, Try.ntmps63
  go_upto_region 3 with fail
  refine wp_named ?_
  intro W hW
  have HBX : Hid (Blk W w.heap.size [.int .i64 kd, .int .i64 j, .int .i64 k, .int .i64 vk, .int .u64 vb, .slice a A.length c, .bool true]) := Lib.hid (by rw [hW]; exact (boxF2 _ _ _ _ _).1)
  have HRS : Hid (Blk W (w.heap.size + 1) [.int .i64 0, .int .i64 0, .int .i64 0, .int .i64 0, .int .u64 0, .slice none 0 0, .bool false]) := Lib.hid (by rw [hW]; exact (boxF2 _ _ _ _ _).2.1)
  have HBW : Hid (Below w.heap.size w W) := Lib.hid (by rw [hW]; exact (boxF2 _ _ _ _ _).2.2)
  have b3q := ((bcell HBW.out).1 _ _ bz').trans b3'
  have bzq := Nat.lt_of_lt_of_le bz' HBW.out.size
  have f0q := ((bcell HBW.out).1 _ _ fz).trans f0
  have fzq := Nat.lt_of_lt_of_le fz HBW.out.size
  obtain ⟨b0, b1, b2, b3, b4, b5, b6, bf⟩ := blk7z HBX.out
  have bz := HBX.out.1
  have h01 : (kd == 0) = true := beq_iff_eq.2 HK0.out
  clear hW b3' bz' f0 fz
  go_big_quiet (fail)
  obtain ⟨W1, hW1⟩ : ∃ x, x = W.drewN nq := ⟨_, rfl⟩
  rw [← hW1]
  have HBD : Hid (Below W.heap.size W W1) := Lib.hid (by rw [hW1]; exact b_drewN (Below.refl _ _) _)
  clear hW1
  go_upto_region 5 with fail
  have b3r := ((bcell HBD.out).1 _ _ bzq).trans b3q
  have bzr := Nat.lt_of_lt_of_le bzq HBD.out.size
  have f0r := ((bcell HBD.out).1 _ _ fzq).trans f0q
  have fzr := Nat.lt_of_lt_of_le fzq HBD.out.size
  replace HBX := Lib.hid (blk_below HBX.out HBD.out)
  replace HRS := Lib.hid (blk_below HRS.out HBD.out)
  replace HBW := Lib.hid (b_call HBW.out HBD.out)
  clear b0 b1 b2 b3 b4 b5 b6 bf bz b3q bzq f0q fzq HBD
  obtain ⟨b0, b1, b2, b3, b4, b5, b6, bf⟩ := blk7z HBX.out
  have bz := HBX.out.1
  go_big_quiet (fail)
  obtain ⟨W2, hW2⟩ : ∃ x, x = W1.drewN nq := ⟨_, rfl⟩
  rw [← hW2]
  have hbD2 : Below W1.heap.size W1 W2 := by rw [hW2]; exact b_drewN (Below.refl _ _) _
  replace HBX := Lib.hid (blk_below HBX.out hbD2)
  replace HRS := Lib.hid (blk_below HRS.out hbD2)
  replace HBW := Lib.hid (b_call HBW.out hbD2)
  clear b0 b1 b2 b3 b4 b5 b6 bf bz b3r bzr f0r fzr hbD2 hW2
  go_wp2_with fail
  go_loopw [5, 45] (fun v i wr => ∃ k9 : Nat, k9 ≤ ps.length ∧ i = .int .i64 k9 ∧ (∃ (a9 : Option Addr) (n9 c9 : Nat) (LL : List ValM), v = .slice a9 n9 c9 ∧ n9 = LL.length ∧ Hid (LL = (List.range k9).map (fitG ps A)) ∧ Hid (OwnR valE VRT wr (w.heap.size + 2) (.slice a9 LL.length c9) LL)) ∧ Hid (Below w.heap.size w wr ∧ Blk wr w.heap.size [.int .i64 kd, .int .i64 j, .int .i64 k, .int .i64 vk, .int .u64 vb, .slice a A.length c, .bool true] ∧ Blk wr (w.heap.size + 1) [.int .i64 0, .int .i64 0, .int .i64 0, .int .i64 0, .int .u64 0, .slice none 0 0, .bool false])) (fun _ i _ => ps.length - (intOf i).toNat)
  case atStart => exact ⟨0, Nat.zero_le _, rfl, ⟨none, 0, 0, [], rfl, rfl, Lib.hid rfl, Lib.hid (ownR_nil _ _)⟩, Lib.hid ⟨HBW.out, HBX.out, HRS.out⟩⟩
  case round =>
    obtain ⟨V1, hV1⟩ : ∃ x, x = wr := ⟨_, rfl⟩
    subst hV1
    obtain ⟨i, hi, rfl, ⟨a9, n9, c9, LL, rfl, rfl, HEQ, HOW⟩, HB3⟩ := hrel
    have i0 : (0 : Int) ≤ i := by omega
    have HB := Lib.hid HB3.out.1
    have HBX1 := Lib.hid HB3.out.2.1
    have HRS1 := Lib.hid HB3.out.2.2
    by_cases hlt : i < ps.length
    · have i1 : (i : Int) < ps.length := by omega
      have ipc : (i : Int) < pc := by omega
      obtain ⟨bp, op, cpp, e5, p1, p2, hbp, p4⟩ := readI_pos (readI_below HRP.out HB.out) (by omega)
      injection e5 with e5 e5b e6
      subst e5
      have pk := p4 i hlt
      have HT : Hid ((List.range (i + 1)).map (fitG ps A) = (List.range i).map (fitG ps A) ++ [fitG ps A i]) := Lib.hid (by rw [List.range_succ, List.map_append]; rfl)
      have HLN : Hid (LL.length = i) := Lib.hid (by rw [HEQ.out, List.length_map, List.length_range])
      obtain ⟨y, hy⟩ : ∃ y, y = ps.getD i 0 := ⟨_, rfl⟩
      rw [← hy] at pk
      have HY := Lib.hid hy
      clear p4 p1 p2 e6 e5b hy
      go_upto_region 9 with fail
      refine wp_named ?_
      intro V2 hV2
      have S2 : Blk V2 V1.heap.size [.int .i64 y, .int .u64 0] ∧ Below V1.heap.size V1 V2 := by
        rw [hV2]
        exact ⟨blk_new _ _ _, b_alloc (Below.refl _ _) _⟩
      have HX2 := Lib.hid S2.1
      have HB12 := Lib.hid S2.2
      have HBX2 := Lib.hid (blk_below HBX1.out S2.2)
      have HRS2 := Lib.hid (blk_below HRS1.out S2.2)
      clear hV2 S2 pk hbp
      obtain ⟨b0, b1, b2, b3, b4, b5, b6, bf⟩ := blk7z HBX2.out
      have bz := HBX2.out.1
      by_cases hA : i < A.length
      · have iA : (i : Int) < A.length := by omega
        have iAc : (i : Int) < c := by omega
        have HG : Hid (fitG ps A i = ⟨y, A[i].b⟩) := Lib.hid (by rw [fitG_in hA, HY.out])
        obtain ⟨bl, off, cp, e1, r1, r2, hbl, r4⟩ := valR_pos (readR_below HA.out (b_call HB.out HB12.out)) (by omega)
        injection e1 with e1 e1b e3
        subst e1
        obtain ⟨x0, x1⟩ := r4 i hA
        have HIA := Lib.hid hA
        generalize A[i].b = xb at *
        have y1 := HX2.out.2.1 1 (by simp)
        have yf := HX2.out.2.2
        have yz := HX2.out.1
        clear r4 r1 r2 e3 e1b x0 hA
        go_upto_region 11 with fail
        refine wp_named ?_
        intro V3 hV3
        have HX3 : Hid (Blk V3 V1.heap.size [.int .i64 y, .int .u64 xb]) := Lib.hid (by rw [hV3]; exact blk_set HX2.out 1 (.int .u64 xb))
        have HB13 : Hid (Below V1.heap.size V1 V3) := Lib.hid (by rw [hV3]; exact b_set HB12.out (p := ⟨V1.heap.size, 1, none⟩) (Nat.le_refl _) _)
        clear hV3 y1 yf yz x1 hbl b0 b1 b2 b3 b4 b5 b6 bf bz
        have hn9 : LL.length = i := HLN.out
        obtain ⟨n9, hn9'⟩ : ∃ n9, n9 = LL.length := ⟨_, rfl⟩
        have HO3 := Lib.hid (ownR_below HOW.out HB13.out)
        have HBX3 := Lib.hid (blk_below HBX1.out HB13.out)
        have HRS3 := Lib.hid (blk_below HRS1.out HB13.out)
        have HBW3 := Lib.hid (b_call HB.out HB13.out)
        have hsz : w.heap.size + 2 ≤ V3.heap.size := HRS3.out.1
        obtain ⟨z0, z1, zf⟩ := blk2 HX3.out
        have zz := HX3.out.1
        clear hn9 n9 hn9'
        go_wp2_with (at_builtin; refine append1 (c := valE) rowVR (by rfl) _ _ (by rfl) (by rfl) (v := .slice a9 LL.length c9) (L := LL) (B := w.heap.size + 2) (ownR_alloc HO3.out _) (⟨y, xb⟩ : ValM) _ 1 (by rfl) (blk_new3 rfl) ?c1 ?c2 ?c3 ?_; (case c1 => (have := HLN.out; omega)); (case c2 => (have := HLN.out; unfold maxLen; omega)); (case c3 => (simp; omega)); intro g9 cap9 w9 ho9 hg9 hor9 hl9; have HO9 := Lib.hid ho9; have HG9 := Lib.hid hg9; clear ho9 hg9 hor9 hl9)
        have HNB : Hid (∀ j, j < w.heap.size + 2 → some j ≠ (Value.slice a9 LL.length c9).ownBlock) := Lib.hid (fun j hj e => by have := (ownR_lt HO3.out j e.symm).1; omega)
        go_roundw
        case rel => exact ⟨i + 1, by omega, by first | rfl | go_num, ⟨some ⟨g9, 0, none⟩, LL.length + 1, cap9, LL ++ [⟨y, xb⟩], rfl, by simp, Lib.hid (by rw [HT.out, HEQ.out, HG.out]), Lib.hid (by rw [List.length_append]; exact HO9.out)⟩, Lib.hid ⟨b_ownR (b_alloc HBW3.out _) (ownR_mono (ownR_alloc HO3.out _) (by omega)) HG9.out, blk_grown (blk_alloc HBX3.out _) HG9.out (HNB.out _ (by omega)), blk_grown (blk_alloc HRS3.out _) HG9.out (HNB.out _ (by omega))⟩⟩
        case measure => simp [intOf]; omega
      · have iA : ¬ ((i : Int) < A.length) := by omega
        have HG : Hid (fitG ps A i = ⟨y, 0⟩) := Lib.hid (by rw [fitG_out hA, HY.out])
        clear hA
        obtain ⟨xb, hxb⟩ : ∃ xb : Int, xb = 0 := ⟨_, rfl⟩
        rw [← hxb] at HX2 HG
        clear hxb
        go_upto_region 11 with fail
        obtain ⟨V3, hV3⟩ : ∃ x, x = V2 := ⟨_, rfl⟩
        subst hV3
        have HX3 := HX2
        have HB13 := HB12
        clear b0 b1 b2 b3 b4 b5 b6 bf bz
        have hn9 : LL.length = i := HLN.out
        obtain ⟨n9, hn9'⟩ : ∃ n9, n9 = LL.length := ⟨_, rfl⟩
        have HO3 := Lib.hid (ownR_below HOW.out HB13.out)
        have HBX3 := Lib.hid (blk_below HBX1.out HB13.out)
        have HRS3 := Lib.hid (blk_below HRS1.out HB13.out)
        have HBW3 := Lib.hid (b_call HB.out HB13.out)
        have hsz : w.heap.size + 2 ≤ V3.heap.size := HRS3.out.1
        obtain ⟨z0, z1, zf⟩ := blk2 HX3.out
        have zz := HX3.out.1
        clear hn9 n9 hn9'
        go_wp2_with (at_builtin; refine append1 (c := valE) rowVR (by rfl) _ _ (by rfl) (by rfl) (v := .slice a9 LL.length c9) (L := LL) (B := w.heap.size + 2) (ownR_alloc HO3.out _) (⟨y, xb⟩ : ValM) _ 1 (by rfl) (blk_new3 rfl) ?c1 ?c2 ?c3 ?_; (case c1 => (have := HLN.out; omega)); (case c2 => (have := HLN.out; unfold maxLen; omega)); (case c3 => (simp; omega)); intro g9 cap9 w9 ho9 hg9 hor9 hl9; have HO9 := Lib.hid ho9; have HG9 := Lib.hid hg9; clear ho9 hg9 hor9 hl9)
        have HNB : Hid (∀ j, j < w.heap.size + 2 → some j ≠ (Value.slice a9 LL.length c9).ownBlock) := Lib.hid (fun j hj e => by have := (ownR_lt HO3.out j e.symm).1; omega)
        go_roundw
        case rel => exact ⟨i + 1, by omega, by first | rfl | go_num, ⟨some ⟨g9, 0, none⟩, LL.length + 1, cap9, LL ++ [⟨y, xb⟩], rfl, by simp, Lib.hid (by rw [HT.out, HEQ.out, HG.out]), Lib.hid (by rw [List.length_append]; exact HO9.out)⟩, Lib.hid ⟨b_ownR (b_alloc HBW3.out _) (ownR_mono (ownR_alloc HO3.out _) (by omega)) HG9.out, blk_grown (blk_alloc HBX3.out _) HG9.out (HNB.out _ (by omega)), blk_grown (blk_alloc HRS3.out _) HG9.out (HNB.out _ (by omega))⟩⟩
        case measure => simp [intOf]; omega
    · have i1 : ¬ ((i : Int) < ps.length) := by omega
      have HF : Hid (LL = fitA ps A) := Lib.hid (by rw [HEQ.out, show i = ps.length by omega]; rfl)
      obtain ⟨b0, b1, b2, b3, b4, b5, b6, bf⟩ := blk7z HBX1.out
      have bz := HBX1.out.1
      go_upto_region 14 with fail
      refine wp_named ?_
      intro V5 hV5
      have HNE1 : Hid (∀ j, (Value.slice a9 LL.length c9).ownBlock = some j → j ≠ w.heap.size) := Lib.hid (fun j hj => by have := (ownR_lt HOW.out j hj).1; omega)
      replace HBX : Hid (Blk V5 w.heap.size [.int .i64 kd, .int .i64 j, .int .i64 k, .int .i64 vk, .int .u64 vb, .slice a9 LL.length c9, .bool true]) := Lib.hid (by rw [hV5]; exact blk_set HBX1.out 5 (.slice a9 LL.length c9))
      replace HRS : Hid (Blk V5 (w.heap.size + 1) [.int .i64 0, .int .i64 0, .int .i64 0, .int .i64 0, .int .u64 0, .slice none 0 0, .bool false]) := Lib.hid (by rw [hV5]; exact blk_other HRS1.out (p := ⟨w.heap.size, 5, none⟩) (by show w.heap.size ≠ w.heap.size + 1; omega) _)
      replace HBW : Hid (Below w.heap.size w V5) := Lib.hid (by rw [hV5]; exact b_set HB.out (p := ⟨w.heap.size, 5, none⟩) (Nat.le_refl _) _)
      have HO5 : Hid (OwnR valE VRT V5 (w.heap.size + 2) (.slice a9 LL.length c9) LL) := Lib.hid (by rw [hV5]; exact ownsRow_setCell_other HOW.out (a := ⟨w.heap.size, 5, none⟩) (fun e => HNE1.out _ e rfl) _)
      have HFINK : Hid (¬ (kd = 6 ∧ (locM L k).2 = 0) → ∀ w4 w', Below w.heap.size w w4 → Below V5.heap.size V5 w4 → w4.grownBy w' (some (w.heap.size + 1)) → FitEnd w a c A (fitM P L ⟨kd, j, k, ⟨vk, vb⟩, A, true⟩) (.returned (.agg #[.int .i64 kd, .int .i64 j, .int .i64 k, .int .i64 vk, .int .u64 vb, .slice a9 LL.length c9, .bool true])) w') := Lib.hid (fun h6 w4 w' hb hb4 hg => by
        rw [HM.out h6, ← HF.out]
        have ho := ownR_below HO5.out hb4
        have ho' := ownR_kept ho hg (Or.inr (fun e => by
          have := (ownR_lt ho _ e).1
          omega))
        exact ⟨a9, c9, rfl, ownR_read ho', b_grown hb hg (by omega), Or.inr ⟨ownR_slOk9 ho', fun j hj => by have := (ownR_lt ho' j hj).1; omega⟩⟩)
      have HH6 := Lib.hid (show ∀ ec : Int, ¬ (kd = 6 ∧ ec = 0) from fun ec z => by have := HK0.out; omega)
      have h61 : (kd == 6) = false := beq_false_of_ne (by have := HK0.out; omega)
      have HFINS : Hid True := Lib.hid trivial
      clear hV5 b0 b1 b2 b3 b4 b5 b6 bf bz
      obtain ⟨b0, b1, b2, b3, b4, b5, b6, bf⟩ := blk7z HBX.out
      have bz := HBX.out.1
      go_wp2_with fail
      refine (rloc_all (doc_below HDD.out HBW.out) HL.out k).mono ?_
      rintro e w3 ⟨rfl, hb3⟩
      have HBW3 := Lib.hid (b_call HBW.out hb3)
      have HBX3 := Lib.hid (blk_below HBX.out hb3)
      have HRS3 := Lib.hid (blk_below HRS.out hb3)
      have HBT3 := Lib.hid hb3
      clear hb3 b0 b1 b2 b3 b4 b5 b6 bf bz
      revert HFINS HFINK
      generalize (locM L k).2 = ec
      generalize (locM L k).1 = x
      obtain ⟨xk, xb⟩ := x
      intro HFINK HFINS
      unfold aggV
      simp only
      go_upto_region 15 with fail
      refine wp_named ?_
      intro W4 hW4
      have HX4 : Hid (Blk W4 w3.heap.size [.int .i64 xk, .int .u64 xb]) := Lib.hid (by rw [hW4]; exact blk_new _ _ _)
      have HB4 : Hid (Below w3.heap.size w3 W4) := Lib.hid (by rw [hW4]; exact b_alloc (Below.refl _ _) _)
      have HBX4 := Lib.hid (blk_below HBX3.out HB4.out)
      have HRS4 := Lib.hid (blk_below HRS3.out HB4.out)
      have HBW4 := Lib.hid (b_call HBW3.out HB4.out)
      have HBT4 := Lib.hid (b_call HBT3.out HB4.out)
      obtain ⟨b0, b1, b2, b3, b4, b5, b6, bf⟩ := blk7z HBX4.out
      have bz := HBX4.out.1
      clear hW4
      obtain ⟨r0, r1, r2, r3, r4, r5, r6, rf⟩ := blk7z HRS4.out
      have rz := HRS4.out.1
      go_wp2_with fail
      refine post_named ?_
      intro w9 hw9
      have g9 : W4.grownBy w9 (some (w.heap.size + 1)) := by rw [hw9]; exact gb_set (gb_set (gb_set (gb_set (gb_set (gb_set (gb_set (gb_refl W4 (some (w.heap.size + 1))) 0 none (.int .i64 kd)) 1 none (.int .i64 j)) 2 none (.int .i64 k)) 3 none (.int .i64 vk)) 4 none (.int .u64 vb)) 5 none (.slice a9 LL.length c9)) 6 none (.bool true)
      have u9 : Blk w9 (w.heap.size + 1) [.int .i64 kd, .int .i64 j, .int .i64 k, .int .i64 vk, .int .u64 vb, .slice a9 LL.length c9, .bool true] := by rw [hw9]; exact blk_set (blk_set (blk_set (blk_set (blk_set (blk_set (blk_set (HRS4.out) 0 (.int .i64 kd)) 1 (.int .i64 j)) 2 (.int .i64 k)) 3 (.int .i64 vk)) 4 (.int .u64 vb)) 5 (.slice a9 LL.length c9)) 6 (.bool true)
      obtain ⟨u0, u1, u2, u3, u4, u5, u6, uf⟩ := blk7z u9
      clear hw9 u9
      exact bodyPost_ret (v := .agg #[.int .i64 kd, .int .i64 j, .int .i64 k, .int .i64 vk, .int .u64 vb, .slice a9 LL.length c9, .bool true]) (by simp [results, Try.results63, go_sem, u0, u1, u2, u3, u4, u5, u6]) rfl (HFINK.out (HH6.out _) _ _ HBW4.out HBT4.out g9)
end
section
open Go.RowKit
set_option linter.unusedVariables false
set_option linter.unusedSimpArgs false
attribute [local go_sem] over_cell over_frozen
variable {w0 w w' : World} {r : Nat} {q : PrV} {lv : Sl} {L : List FrM} {m : FrM}
set_option maxRecDepth 100000 in
set_option maxHeartbeats 16000000 in
theorem lfit_n2 {P : PrM} (h : DocF w0 w r q lv L) (hP : ReadP w0 q P) (hL : L.length ≤ 24) (o : OpM) {a : Option Addr} {c : Nat} (ha : ReadR valE w (.slice a o.args.length c) o.args) (hf : o.fit = true) (hn : o.kind = 0 ∧ (0 ≤ o.f ∧ (P.fs.length : Int) ≤ o.f)) : Calls Try.prog 63 #[rp r, aggOp o.kind o.f o.k o.v a o.args.length c o.fit] w (FitEnd w a c o.args (fitM P L o)) := by
  have HDD := Lib.hid h
  have HL := Lib.hid hL
  have HA := Lib.hid ha
  obtain ⟨fl1, fl2, fl3⟩ := fns_len hP
  have fl4 := cap_le fl3
  have b3' := h.hd.2.1 3 (by simp)
  simp only [List.getElem_cons_succ, List.getElem_cons_zero] at b3'
  rw [fl1] at b3'
  have bz' := h.hd.1
  obtain ⟨kd, f, k, ⟨vk, vb⟩, A, ft⟩ := o
  simp only at hf hn HA
  subst hf
  have HFINK : Hid (¬ (kd = 6 ∧ (locM L k).2 = 0) → ∀ w', Below w.heap.size w w' → FitEnd w a c A (fitM P L ⟨kd, f, k, ⟨vk, vb⟩, A, true⟩) (.returned (.agg #[.int .i64 kd, .int .i64 f, .int .i64 k, .int .i64 vk, .int .u64 vb, .slice a A.length c, .bool true])) w') := Lib.hid (fun h6 w' hb => by
    have e : fitM P L ⟨kd, f, k, ⟨vk, vb⟩, A, true⟩ = ⟨kd, f, k, ⟨vk, vb⟩, A, true⟩ := by simp only [fitM]; rw [if_neg (by simp), if_neg (show ¬ (kd = 0 ∧ 0 ≤ f ∧ f < P.fs.length) by omega), if_neg h6]
    rw [e]; exact ⟨a, c, rfl, readR_below HA.out hb, hb, Or.inl ⟨rfl, rfl, rfl⟩⟩)
  have HFINS : Hid (kd = 6 ∧ (locM L k).2 = 0 → ∀ w', Below w.heap.size w w' → FitEnd w a c A (fitM P L ⟨kd, f, k, ⟨vk, vb⟩, A, true⟩) (.returned (.agg #[.int .i64 kd, .int .i64 f, .int .i64 k, .int .i64 (locM L k).1.k, .int .u64 vb, .slice a A.length c, .bool true])) w') := Lib.hid (fun h6 w' hb => by
    have e : fitM P L ⟨kd, f, k, ⟨vk, vb⟩, A, true⟩ = ⟨kd, f, k, ⟨(locM L k).1.k, vb⟩, A, true⟩ := by simp only [fitM]; rw [if_neg (by simp), if_neg (show ¬ (kd = 0 ∧ 0 ≤ f ∧ f < P.fs.length) by omega), if_pos h6]
    rw [e]; exact ⟨a, c, rfl, readR_below HA.out hb, hb, Or.inl ⟨rfl, rfl, rfl⟩⟩)
  have HN := Lib.hid hn
  clear h hP hL ha fl1 fl2 fl3 hn
  unfold rp aggOp
  simp only
  go_enter Try.func63, Try.ntmps63
  go_upto_region 3 with fail
  refine wp_named ?_
  intro W hW
  have HBX : Hid (Blk W w.heap.size [.int .i64 kd, .int .i64 f, .int .i64 k, .int .i64 vk, .int .u64 vb, .slice a A.length c, .bool true]) := Lib.hid (by rw [hW]; exact (boxF2 _ _ _ _ _).1)
  have HRS : Hid (Blk W (w.heap.size + 1) [.int .i64 0, .int .i64 0, .int .i64 0, .int .i64 0, .int .u64 0, .slice none 0 0, .bool false]) := Lib.hid (by rw [hW]; exact (boxF2 _ _ _ _ _).2.1)
  have HBW : Hid (Below w.heap.size w W) := Lib.hid (by rw [hW]; exact (boxF2 _ _ _ _ _).2.2)
  have b3q := ((bcell HBW.out).1 _ _ bz').trans b3'
  have bzq := Nat.lt_of_lt_of_le bz' HBW.out.size
  obtain ⟨b0, b1, b2, b3, b4, b5, b6, bf⟩ := blk7z HBX.out
  have bz := HBX.out.1
  clear hW b3' bz'
  obtain ⟨h0, h1⟩ := HN.out
  have HH6 := Lib.hid (show ∀ ec : Int, ¬ (kd = 6 ∧ ec = 0) from fun ec z => by omega)
  have h01 : (kd == 0) = true := beq_iff_eq.2 h0
  have h61 : (kd == 6) = false := beq_false_of_ne (by omega)
  clear h0
  have h22 : ¬ (f < P.fs.length) := by omega
  obtain ⟨h1, h3⟩ := h1
  go_big_quiet (fail)
  obtain ⟨W1, hW1⟩ : ∃ x, x = W.drewN nq := ⟨_, rfl⟩
  rw [← hW1]
  have hbD : Below W.heap.size W W1 := by rw [hW1]; exact b_drewN (Below.refl _ _) _
  replace HBX := Lib.hid (blk_below HBX.out hbD)
  replace HRS := Lib.hid (blk_below HRS.out hbD)
  replace HBW := Lib.hid (b_call HBW.out hbD)
  clear hW1 hbD b0 b1 b2 b3 b4 b5 b6 bf bz b3q bzq
  obtain ⟨b0, b1, b2, b3, b4, b5, b6, bf⟩ := blk7z HBX.out
  have bz := HBX.out.1
  go_wp2_with fail
  refine (rloc_all (doc_below HDD.out HBW.out) HL.out k).mono ?_
  rintro e w3 ⟨rfl, hb3⟩
  have HBW3 := Lib.hid (b_call HBW.out hb3)
  have HBX3 := Lib.hid (blk_below HBX.out hb3)
  have HRS3 := Lib.hid (blk_below HRS.out hb3)
  have HBT3 := Lib.hid hb3
  clear hb3 b0 b1 b2 b3 b4 b5 b6 bf bz
  revert HFINS HFINK
  generalize (locM L k).2 = ec
  generalize (locM L k).1 = x
  obtain ⟨xk, xb⟩ := x
  intro HFINK HFINS
  unfold aggV
  simp only
  go_upto_region 15 with fail
  refine wp_named ?_
  intro W4 hW4
  have HX4 : Hid (Blk W4 w3.heap.size [.int .i64 xk, .int .u64 xb]) := Lib.hid (by rw [hW4]; exact blk_new _ _ _)
  have HB4 : Hid (Below w3.heap.size w3 W4) := Lib.hid (by rw [hW4]; exact b_alloc (Below.refl _ _) _)
  have HBX4 := Lib.hid (blk_below HBX3.out HB4.out)
  have HRS4 := Lib.hid (blk_below HRS3.out HB4.out)
  have HBW4 := Lib.hid (b_call HBW3.out HB4.out)
  have HBT4 := Lib.hid (b_call HBT3.out HB4.out)
  obtain ⟨b0, b1, b2, b3, b4, b5, b6, bf⟩ := blk7z HBX4.out
  have bz := HBX4.out.1
  clear hW4
  obtain ⟨r0, r1, r2, r3, r4, r5, r6, rf⟩ := blk7z HRS4.out
  have rz := HRS4.out.1
  go_wp2_with fail
  refine post_named ?_
  intro w9 hw9
  have g9 : W4.grownBy w9 (some (w.heap.size + 1)) := by rw [hw9]; exact gb_set (gb_set (gb_set (gb_set (gb_set (gb_set (gb_set (gb_refl W4 (some (w.heap.size + 1))) 0 none (.int .i64 kd)) 1 none (.int .i64 f)) 2 none (.int .i64 k)) 3 none (.int .i64 vk)) 4 none (.int .u64 vb)) 5 none (.slice a A.length c)) 6 none (.bool true)
  have u9 : Blk w9 (w.heap.size + 1) [.int .i64 kd, .int .i64 f, .int .i64 k, .int .i64 vk, .int .u64 vb, .slice a A.length c, .bool true] := by rw [hw9]; exact blk_set (blk_set (blk_set (blk_set (blk_set (blk_set (blk_set (HRS4.out) 0 (.int .i64 kd)) 1 (.int .i64 f)) 2 (.int .i64 k)) 3 (.int .i64 vk)) 4 (.int .u64 vb)) 5 (.slice a A.length c)) 6 (.bool true)
  obtain ⟨u0, u1, u2, u3, u4, u5, u6, uf⟩ := blk7z u9
  clear hw9 u9
  exact bodyPost_ret (v := .agg #[.int .i64 kd, .int .i64 f, .int .i64 k, .int .i64 vk, .int .u64 vb, .slice a A.length c, .bool true]) (by simp [results, Try.results63, go_sem, u0, u1, u2, u3, u4, u5, u6]) rfl (HFINK.out (HH6.out _) _ (b_grown HBW4.out g9 (by omega)))
end
section
open Go.RowKit
set_option linter.unusedVariables false
set_option linter.unusedSimpArgs false
attribute [local go_sem] over_cell over_frozen
variable {w0 w w' : World} {r : Nat} {q : PrV} {lv : Sl} {L : List FrM} {m : FrM}
set_option maxRecDepth 100000 in
set_option maxHeartbeats 16000000 in
theorem lfit_n0 {P : PrM} (h : DocF w0 w r q lv L) (hP : ReadP w0 q P) (hL : L.length ≤ 24) (o : OpM) {a : Option Addr} {c : Nat} (ha : ReadR valE w (.slice a o.args.length c) o.args) (hf : o.fit = true) (hn : o.kind ≠ 0) : Calls Try.prog 63 #[rp r, aggOp o.kind o.f o.k o.v a o.args.length c o.fit] w (FitEnd w a c o.args (fitM P L o)) := by
  have HDD := Lib.hid h
  have HL := Lib.hid hL
  have HA := Lib.hid ha
  obtain ⟨fl1, fl2, fl3⟩ := fns_len hP
  have fl4 := cap_le fl3
  have b3' := h.hd.2.1 3 (by simp)
  simp only [List.getElem_cons_succ, List.getElem_cons_zero] at b3'
  rw [fl1] at b3'
  have bz' := h.hd.1
  obtain ⟨kd, f, k, ⟨vk, vb⟩, A, ft⟩ := o
  simp only at hf hn HA
  subst hf
  have HFINK : Hid (¬ (kd = 6 ∧ (locM L k).2 = 0) → ∀ w', Below w.heap.size w w' → FitEnd w a c A (fitM P L ⟨kd, f, k, ⟨vk, vb⟩, A, true⟩) (.returned (.agg #[.int .i64 kd, .int .i64 f, .int .i64 k, .int .i64 vk, .int .u64 vb, .slice a A.length c, .bool true])) w') := Lib.hid (fun h6 w' hb => by
    have e : fitM P L ⟨kd, f, k, ⟨vk, vb⟩, A, true⟩ = ⟨kd, f, k, ⟨vk, vb⟩, A, true⟩ := by simp only [fitM]; rw [if_neg (by simp), if_neg (show ¬ (kd = 0 ∧ 0 ≤ f ∧ f < P.fs.length) by omega), if_neg h6]
    rw [e]; exact ⟨a, c, rfl, readR_below HA.out hb, hb, Or.inl ⟨rfl, rfl, rfl⟩⟩)
  have HFINS : Hid (kd = 6 ∧ (locM L k).2 = 0 → ∀ w', Below w.heap.size w w' → FitEnd w a c A (fitM P L ⟨kd, f, k, ⟨vk, vb⟩, A, true⟩) (.returned (.agg #[.int .i64 kd, .int .i64 f, .int .i64 k, .int .i64 (locM L k).1.k, .int .u64 vb, .slice a A.length c, .bool true])) w') := Lib.hid (fun h6 w' hb => by
    have e : fitM P L ⟨kd, f, k, ⟨vk, vb⟩, A, true⟩ = ⟨kd, f, k, ⟨(locM L k).1.k, vb⟩, A, true⟩ := by simp only [fitM]; rw [if_neg (by simp), if_neg (show ¬ (kd = 0 ∧ 0 ≤ f ∧ f < P.fs.length) by omega), if_pos h6]
    rw [e]; exact ⟨a, c, rfl, readR_below HA.out hb, hb, Or.inl ⟨rfl, rfl, rfl⟩⟩)
  have HN := Lib.hid hn
  clear h hP hL ha fl1 fl2 fl3 hn
  unfold rp aggOp
  simp only
  go_enter Try.func63, Try.ntmps63
  go_upto_region 3 with fail
  refine wp_named ?_
  intro W hW
  have HBX : Hid (Blk W w.heap.size [.int .i64 kd, .int .i64 f, .int .i64 k, .int .i64 vk, .int .u64 vb, .slice a A.length c, .bool true]) := Lib.hid (by rw [hW]; exact (boxF2 _ _ _ _ _).1)
  have HRS : Hid (Blk W (w.heap.size + 1) [.int .i64 0, .int .i64 0, .int .i64 0, .int .i64 0, .int .u64 0, .slice none 0 0, .bool false]) := Lib.hid (by rw [hW]; exact (boxF2 _ _ _ _ _).2.1)
  have HBW : Hid (Below w.heap.size w W) := Lib.hid (by rw [hW]; exact (boxF2 _ _ _ _ _).2.2)
  have b3q := ((bcell HBW.out).1 _ _ bz').trans b3'
  have bzq := Nat.lt_of_lt_of_le bz' HBW.out.size
  obtain ⟨b0, b1, b2, b3, b4, b5, b6, bf⟩ := blk7z HBX.out
  have bz := HBX.out.1
  clear hW b3' bz'
  have h01 : (kd == 0) = false := beq_false_of_ne HN.out
  go_big_quiet (fail)
  obtain ⟨W1, hW1⟩ : ∃ x, x = W.drewN nq := ⟨_, rfl⟩
  rw [← hW1]
  have hbD : Below W.heap.size W W1 := by rw [hW1]; exact b_drewN (Below.refl _ _) _
  replace HBX := Lib.hid (blk_below HBX.out hbD)
  replace HRS := Lib.hid (blk_below HRS.out hbD)
  replace HBW := Lib.hid (b_call HBW.out hbD)
  clear hW1 hbD b0 b1 b2 b3 b4 b5 b6 bf bz b3q bzq
  obtain ⟨b0, b1, b2, b3, b4, b5, b6, bf⟩ := blk7z HBX.out
  have bz := HBX.out.1
  go_wp2_with fail
  refine (rloc_all (doc_below HDD.out HBW.out) HL.out k).mono ?_
  rintro e w3 ⟨rfl, hb3⟩
  have HBW3 := Lib.hid (b_call HBW.out hb3)
  have HBX3 := Lib.hid (blk_below HBX.out hb3)
  have HRS3 := Lib.hid (blk_below HRS.out hb3)
  have HBT3 := Lib.hid hb3
  clear hb3 b0 b1 b2 b3 b4 b5 b6 bf bz
  revert HFINS HFINK
  generalize (locM L k).2 = ec
  generalize (locM L k).1 = x
  obtain ⟨xk, xb⟩ := x
  intro HFINK HFINS
  unfold aggV
  simp only
  go_upto_region 15 with fail
  refine wp_named ?_
  intro W4 hW4
  have HX4 : Hid (Blk W4 w3.heap.size [.int .i64 xk, .int .u64 xb]) := Lib.hid (by rw [hW4]; exact blk_new _ _ _)
  have HB4 : Hid (Below w3.heap.size w3 W4) := Lib.hid (by rw [hW4]; exact b_alloc (Below.refl _ _) _)
  have HBX4 := Lib.hid (blk_below HBX3.out HB4.out)
  have HRS4 := Lib.hid (blk_below HRS3.out HB4.out)
  have HBW4 := Lib.hid (b_call HBW3.out HB4.out)
  have HBT4 := Lib.hid (b_call HBT3.out HB4.out)
  obtain ⟨b0, b1, b2, b3, b4, b5, b6, bf⟩ := blk7z HBX4.out
  have bz := HBX4.out.1
  clear hW4
  by_cases h6 : kd = 6
  · have h61 : (kd == 6) = true := beq_iff_eq.2 h6
    by_cases he : ec = 0
    · have HH6 := Lib.hid (And.intro h6 he)
      have he1 : (ec == 0) = true := beq_iff_eq.2 he
      clear h6 he
      obtain ⟨x0, x1, xf⟩ := blk2 HX4.out
      have xz := HX4.out.1
      go_upto_region 17 with fail
      refine wp_named ?_
      intro W5 hW5
      have HBX5 : Hid (Blk W5 w.heap.size [.int .i64 kd, .int .i64 f, .int .i64 k, .int .i64 xk, .int .u64 vb, .slice a A.length c, .bool true]) := Lib.hid (by rw [hW5]; exact blk_set HBX4.out 3 (.int .i64 xk))
      have HRS5 : Hid (Blk W5 (w.heap.size + 1) [.int .i64 0, .int .i64 0, .int .i64 0, .int .i64 0, .int .u64 0, .slice none 0 0, .bool false]) := Lib.hid (by rw [hW5]; exact blk_other HRS4.out (p := ⟨w.heap.size, 3, none⟩) (by show w.heap.size ≠ w.heap.size + 1; omega) _)
      have HBW5 : Hid (Below w.heap.size w W5) := Lib.hid (by rw [hW5]; exact b_set HBW4.out (p := ⟨w.heap.size, 3, none⟩) (Nat.le_refl _) _)
      clear hW5 b0 b1 b2 b3 b4 b5 b6 bf bz x0 x1 xf xz
      obtain ⟨b0, b1, b2, b3, b4, b5, b6, bf⟩ := blk7z HBX5.out
      have bz := HBX5.out.1
      obtain ⟨r0, r1, r2, r3, r4, r5, r6, rf⟩ := blk7z HRS5.out
      have rz := HRS5.out.1
      go_wp2_with fail
      refine post_named ?_
      intro w9 hw9
      have g9 : W5.grownBy w9 (some (w.heap.size + 1)) := by rw [hw9]; exact gb_set (gb_set (gb_set (gb_set (gb_set (gb_set (gb_set (gb_refl W5 (some (w.heap.size + 1))) 0 none (.int .i64 kd)) 1 none (.int .i64 f)) 2 none (.int .i64 k)) 3 none (.int .i64 xk)) 4 none (.int .u64 vb)) 5 none (.slice a A.length c)) 6 none (.bool true)
      have u9 : Blk w9 (w.heap.size + 1) [.int .i64 kd, .int .i64 f, .int .i64 k, .int .i64 xk, .int .u64 vb, .slice a A.length c, .bool true] := by rw [hw9]; exact blk_set (blk_set (blk_set (blk_set (blk_set (blk_set (blk_set (HRS5.out) 0 (.int .i64 kd)) 1 (.int .i64 f)) 2 (.int .i64 k)) 3 (.int .i64 xk)) 4 (.int .u64 vb)) 5 (.slice a A.length c)) 6 (.bool true)
      obtain ⟨u0, u1, u2, u3, u4, u5, u6, uf⟩ := blk7z u9
      clear hw9 u9
      exact bodyPost_ret (v := .agg #[.int .i64 kd, .int .i64 f, .int .i64 k, .int .i64 xk, .int .u64 vb, .slice a A.length c, .bool true]) (by simp [results, Try.results63, go_sem, u0, u1, u2, u3, u4, u5, u6]) rfl (HFINS.out HH6.out _ (b_grown HBW5.out g9 (by omega)))
    · have HH6 := Lib.hid (show ¬ (kd = 6 ∧ ec = 0) from fun z => he z.2)
      have he1 : (ec == 0) = false := beq_false_of_ne he
      clear h6 he
      obtain ⟨r0, r1, r2, r3, r4, r5, r6, rf⟩ := blk7z HRS4.out
      have rz := HRS4.out.1
      go_wp2_with fail
      refine post_named ?_
      intro w9 hw9
      have g9 : W4.grownBy w9 (some (w.heap.size + 1)) := by rw [hw9]; exact gb_set (gb_set (gb_set (gb_set (gb_set (gb_set (gb_set (gb_refl W4 (some (w.heap.size + 1))) 0 none (.int .i64 kd)) 1 none (.int .i64 f)) 2 none (.int .i64 k)) 3 none (.int .i64 vk)) 4 none (.int .u64 vb)) 5 none (.slice a A.length c)) 6 none (.bool true)
      have u9 : Blk w9 (w.heap.size + 1) [.int .i64 kd, .int .i64 f, .int .i64 k, .int .i64 vk, .int .u64 vb, .slice a A.length c, .bool true] := by rw [hw9]; exact blk_set (blk_set (blk_set (blk_set (blk_set (blk_set (blk_set (HRS4.out) 0 (.int .i64 kd)) 1 (.int .i64 f)) 2 (.int .i64 k)) 3 (.int .i64 vk)) 4 (.int .u64 vb)) 5 (.slice a A.length c)) 6 (.bool true)
      obtain ⟨u0, u1, u2, u3, u4, u5, u6, uf⟩ := blk7z u9
      clear hw9 u9
      exact bodyPost_ret (v := .agg #[.int .i64 kd, .int .i64 f, .int .i64 k, .int .i64 vk, .int .u64 vb, .slice a A.length c, .bool true]) (by simp [results, Try.results63, go_sem, u0, u1, u2, u3, u4, u5, u6]) rfl (HFINK.out HH6.out _ (b_grown HBW4.out g9 (by omega)))
  · have HH6 := Lib.hid (show ¬ (kd = 6 ∧ ec = 0) from fun z => h6 z.1)
    have h61 : (kd == 6) = false := beq_false_of_ne h6
    clear h6
    obtain ⟨r0, r1, r2, r3, r4, r5, r6, rf⟩ := blk7z HRS4.out
    have rz := HRS4.out.1
    go_wp2_with fail
    refine post_named ?_
    intro w9 hw9
    have g9 : W4.grownBy w9 (some (w.heap.size + 1)) := by rw [hw9]; exact gb_set (gb_set (gb_set (gb_set (gb_set (gb_set (gb_set (gb_refl W4 (some (w.heap.size + 1))) 0 none (.int .i64 kd)) 1 none (.int .i64 f)) 2 none (.int .i64 k)) 3 none (.int .i64 vk)) 4 none (.int .u64 vb)) 5 none (.slice a A.length c)) 6 none (.bool true)
    have u9 : Blk w9 (w.heap.size + 1) [.int .i64 kd, .int .i64 f, .int .i64 k, .int .i64 vk, .int .u64 vb, .slice a A.length c, .bool true] := by rw [hw9]; exact blk_set (blk_set (blk_set (blk_set (blk_set (blk_set (blk_set (HRS4.out) 0 (.int .i64 kd)) 1 (.int .i64 f)) 2 (.int .i64 k)) 3 (.int .i64 vk)) 4 (.int .u64 vb)) 5 (.slice a A.length c)) 6 (.bool true)
    obtain ⟨u0, u1, u2, u3, u4, u5, u6, uf⟩ := blk7z u9
    clear hw9 u9
    exact bodyPost_ret (v := .agg #[.int .i64 kd, .int .i64 f, .int .i64 k, .int .i64 vk, .int .u64 vb, .slice a A.length c, .bool true]) (by simp [results, Try.results63, go_sem, u0, u1, u2, u3, u4, u5, u6]) rfl (HFINK.out HH6.out _ (b_grown HBW4.out g9 (by omega)))
end
end Go.Proofs.Ytdmidnmciaediaa
