/- Layer 28: the contract of the law's fit, where values are fitted. Conditions: those stated. Layer 28: the contract of the law's fit, where values are fitted. Conditions: those stated. Layer 28: the contract of the law's fit, where values are fitted. Conditions: those stated. -/
import Derived.Test.YtdmidnmciaediaaYFrZ
import Derived.BigQuiet
namespace Go.Proofs.Ytdmidnmciaediaa
section
open Go.RowKit
set_option linter.unusedVariables false
set_option linter.unusedSimpArgs false
attribute [local go_sem] over_cell over_frozen
variable {w0 w w' : World} {r : Nat} {q : PrV} {lv : Sl} {L : List FrM} {m : FrM}
theorem blk7z {w : World} {g : Nat} {u0 u1 u2 u3 u4 u5 u6 : Value} (h : Blk w g [u0, u1, u2, u3, u4, u5, u6]) : w.cell? ⟨g, 0, none⟩ = some u0 ∧ w.cell? ⟨g, 1, none⟩ = some u1 ∧ w.cell? ⟨g, 2, none⟩ = some u2 ∧ w.cell? ⟨g, 3, none⟩ = some u3 ∧ w.cell? ⟨g, 4, none⟩ = some u4 ∧ w.cell? ⟨g, 5, none⟩ = some u5 ∧ w.cell? ⟨g, 6, none⟩ = some u6 ∧ ∀ i, w.frozen? ⟨g, i, none⟩ = false :=
  ⟨h.2.1 0 (by simp), h.2.1 1 (by simp), h.2.1 2 (by simp), h.2.1 3 (by simp), h.2.1 4 (by simp), h.2.1 5 (by simp), h.2.1 6 (by simp), h.2.2⟩
set_option maxRecDepth 100000 in
set_option maxHeartbeats 16000000 in
theorem lfit_n1 {P : PrM} (h : DocF w0 w r q lv L) (hP : ReadP w0 q P) (hL : L.length ≤ 24) (o : OpM) {a : Option Addr} {c : Nat} (ha : ReadR valE w (.slice a o.args.length c) o.args) (hf : o.fit = true) (hn : o.kind = 0 ∧ o.f < 0) : Calls Try.prog 63 #[rp r, aggOp o.kind o.f o.k o.v a o.args.length c o.fit] w (FitEnd w a c o.args (fitM P L o)) := by
  have HDD := Lib.hid h
  have HL := Lib.hid hL
  have HA := Lib.hid ha
  obtain ⟨fl1, fl2, fl3⟩ := fns_len hP
  have fl4 := cap_le fl3
  have b3' := h.hd.2.1 3 (by simp)
  simp only [List.getElem_cons_succ, List.getElem_cons_zero] at b3'
  rw [fl1] at b3'
  have bz' := h.hd.1
  obtain ⟨kd, f, k, ⟨vk, vb⟩, A, ft⟩ := o
  simp only at hf hn HA
  subst hf
  have HFINK : Hid (¬ (kd = 6 ∧ (locM L k).2 = 0) → ∀ w', Below w.heap.size w w' → FitEnd w a c A (fitM P L ⟨kd, f, k, ⟨vk, vb⟩, A, true⟩) (.returned (.agg #[.int .i64 kd, .int .i64 f, .int .i64 k, .int .i64 vk, .int .u64 vb, .slice a A.length c, .bool true])) w') := Lib.hid (fun h6 w' hb => by
    have e : fitM P L ⟨kd, f, k, ⟨vk, vb⟩, A, true⟩ = ⟨kd, f, k, ⟨vk, vb⟩, A, true⟩ := by simp only [fitM]; rw [if_neg (by simp), if_neg (show ¬ (kd = 0 ∧ 0 ≤ f ∧ f < P.fs.length) by omega), if_neg h6]
    rw [e]; exact ⟨a, c, rfl, readR_below HA.out hb, hb, Or.inl ⟨rfl, rfl, rfl⟩⟩)
  have HFINS : Hid (kd = 6 ∧ (locM L k).2 = 0 → ∀ w', Below w.heap.size w w' → FitEnd w a c A (fitM P L ⟨kd, f, k, ⟨vk, vb⟩, A, true⟩) (.returned (.agg #[.int .i64 kd, .int .i64 f, .int .i64 k, .int .i64 (locM L k).1.k, .int .u64 vb, .slice a A.length c, .bool true])) w') := Lib.hid (fun h6 w' hb => by
    have e : fitM P L ⟨kd, f, k, ⟨vk, vb⟩, A, true⟩ = ⟨kd, f, k, ⟨(locM L k).1.k, vb⟩, A, true⟩ := by simp only [fitM]; rw [if_neg (by simp), if_neg (show ¬ (kd = 0 ∧ 0 ≤ f ∧ f < P.fs.length) by omega), if_pos h6]
    rw [e]; exact ⟨a, c, rfl, readR_below HA.out hb, hb, Or.inl ⟨rfl, rfl, rfl⟩⟩)
  have HN := Lib.hid hn
  clear h hP hL ha fl1 fl2 fl3 hn
  unfold rp aggOp
  simp only
  go_enter Try.func63, Try.ntmps63
  go_upto_region 3 with fail
  refine wp_named ?_
  intro W hW
  have HBX : Hid (Blk W w.heap.size [.int .i64 kd, .int .i64 f, .int .i64 k, .int .i64 vk, .int .u64 vb, .slice a A.length c, .bool true]) := Lib.hid (by rw [hW]; exact (boxF2 _ _ _ _ _).1)
  have HRS : Hid (Blk W (w.heap.size + 1) [.int .i64 0, .int .i64 0, .int .i64 0, .int .i64 0, .int .u64 0, .slice none 0 0, .bool false]) := Lib.hid (by rw [hW]; exact (boxF2 _ _ _ _ _).2.1)
  have HBW : Hid (Below w.heap.size w W) := Lib.hid (by rw [hW]; exact (boxF2 _ _ _ _ _).2.2)
  have b3q := ((bcell HBW.out).1 _ _ bz').trans b3'
  have bzq := Nat.lt_of_lt_of_le bz' HBW.out.size
  obtain ⟨b0, b1, b2, b3, b4, b5, b6, bf⟩ := blk7z HBX.out
  have bz := HBX.out.1
  clear hW b3' bz'
  obtain ⟨h0, h1⟩ := HN.out
  have HH6 := Lib.hid (show ∀ ec : Int, ¬ (kd = 6 ∧ ec = 0) from fun ec z => by omega)
  have h01 : (kd == 0) = true := beq_iff_eq.2 h0
  have h61 : (kd == 6) = false := beq_false_of_ne (by omega)
  clear h0
  have h11 : ¬ (0 ≤ f) := by omega
  go_big_quiet (fail)
  obtain ⟨W1, hW1⟩ : ∃ x, x = W.drewN nq := ⟨_, rfl⟩
  rw [← hW1]
  have hbD : Below W.heap.size W W1 := by rw [hW1]; exact b_drewN (Below.refl _ _) _
  replace HBX := Lib.hid (blk_below HBX.out hbD)
  replace HRS := Lib.hid (blk_below HRS.out hbD)
  replace HBW := Lib.hid (b_call HBW.out hbD)
  clear hW1 hbD b0 b1 b2 b3 b4 b5 b6 bf bz b3q bzq
  obtain ⟨b0, b1, b2, b3, b4, b5, b6, bf⟩ := blk7z HBX.out
  have bz := HBX.out.1
  go_wp2_with fail
  refine (rloc_all (doc_below HDD.out HBW.out) HL.out k).mono ?_
  rintro e w3 ⟨rfl, hb3⟩
  have HBW3 := Lib.hid (b_call HBW.out hb3)
  have HBX3 := Lib.hid (blk_below HBX.out hb3)
  have HRS3 := Lib.hid (blk_below HRS.out hb3)
  have HBT3 := Lib.hid hb3
  clear hb3 b0 b1 b2 b3 b4 b5 b6 bf bz
  revert HFINS HFINK
  generalize (locM L k).2 = ec
  generalize (locM L k).1 = x
  obtain ⟨xk, xb⟩ := x
  intro HFINK HFINS
  unfold aggV
  simp only
  go_upto_region 15 with fail
  refine wp_named ?_
  intro W4 hW4
  have HX4 : Hid (Blk W4 w3.heap.size [.int .i64 xk, .int .u64 xb]) := Lib.hid (by rw [hW4]; exact blk_new _ _ _)
  have HB4 : Hid (Below w3.heap.size w3 W4) := Lib.hid (by rw [hW4]; exact b_alloc (Below.refl _ _) _)
  have HBX4 := Lib.hid (blk_below HBX3.out HB4.out)
  have HRS4 := Lib.hid (blk_below HRS3.out HB4.out)
  have HBW4 := Lib.hid (b_call HBW3.out HB4.out)
  have HBT4 := Lib.hid (b_call HBT3.out HB4.out)
  obtain ⟨b0, b1, b2, b3, b4, b5, b6, bf⟩ := blk7z HBX4.out
  have bz := HBX4.out.1
  clear hW4
  obtain ⟨r0, r1, r2, r3, r4, r5, r6, rf⟩ := blk7z HRS4.out
  have rz := HRS4.out.1
  go_wp2_with fail
  refine post_named ?_
  intro w9 hw9
  have g9 : W4.grownBy w9 (some (w.heap.size + 1)) := by rw [hw9]; exact gb_set (gb_set (gb_set (gb_set (gb_set (gb_set (gb_set (gb_refl W4 (some (w.heap.size + 1))) 0 none (.int .i64 kd)) 1 none (.int .i64 f)) 2 none (.int .i64 k)) 3 none (.int .i64 vk)) 4 none (.int .u64 vb)) 5 none (.slice a A.length c)) 6 none (.bool true)
  have u9 : Blk w9 (w.heap.size + 1) [.int .i64 kd, .int .i64 f, .int .i64 k, .int .i64 vk, .int .u64 vb, .slice a A.length c, .bool true] := by rw [hw9]; exact blk_set (blk_set (blk_set (blk_set (blk_set (blk_set (blk_set (HRS4.out) 0 (.int .i64 kd)) 1 (.int .i64 f)) 2 (.int .i64 k)) 3 (.int .i64 vk)) 4 (.int .u64 vb)) 5 (.slice a A.length c)) 6 (.bool true)
  obtain ⟨u0, u1, u2, u3, u4, u5, u6, uf⟩ := blk7z u9
  clear hw9 u9
  exact bodyPost_ret (v := .agg #[.int .i64 kd, .int .i64 f, .int .i64 k, .int .i64 vk, .int .u64 vb, .slice a A.length c, .bool true]) (by simp [results, Try.results63, go_sem, u0, u1, u2, u3, u4, u5, u6]) rfl (HFINK.out (HH6.out _) _ (b_grown HBW4.out g9 (by omega)))
end
section
open Go.RowKit
set_option linter.unusedVariables false
set_option linter.unusedSimpArgs false
attribute [local go_sem] over_cell over_frozen
variable {w0 w w' : World} {r : Nat} {q : PrV} {lv : Sl} {L : List FrM} {m : FrM}
set_option maxRecDepth 100000 in
set_option maxHeartbeats 16000000 in
theorem lfit_n2 {P : PrM} (h : DocF w0 w r q lv L) (hP : ReadP w0 q P) (hL : L.length ≤ 24) (o : OpM) {a : Option Addr} {c : Nat} (ha : ReadR valE w (.slice a o.args.length c) o.args) (hf : o.fit = true) (hn : o.kind = 0 ∧ (0 ≤ o.f ∧ (P.fs.length : Int) ≤ o.f)) : Calls Try.prog 63 #[rp r, aggOp o.kind o.f o.k o.v a o.args.length c o.fit] w (FitEnd w a c o.args (fitM P L o)) := by
  have HDD := Lib.hid h
  have HL := Lib.hid hL
  have HA := Lib.hid ha
  obtain ⟨fl1, fl2, fl3⟩ := fns_len hP
  have fl4 := cap_le fl3
  have b3' := h.hd.2.1 3 (by simp)
  simp only [List.getElem_cons_succ, List.getElem_cons_zero] at b3'
  rw [fl1] at b3'
  have bz' := h.hd.1
  obtain ⟨kd, f, k, ⟨vk, vb⟩, A, ft⟩ := o
  simp only at hf hn HA
  subst hf
  have HFINK : Hid (¬ (kd = 6 ∧ (locM L k).2 = 0) → ∀ w', Below w.heap.size w w' → FitEnd w a c A (fitM P L ⟨kd, f, k, ⟨vk, vb⟩, A, true⟩) (.returned (.agg #[.int .i64 kd, .int .i64 f, .int .i64 k, .int .i64 vk, .int .u64 vb, .slice a A.length c, .bool true])) w') := Lib.hid (fun h6 w' hb => by
    have e : fitM P L ⟨kd, f, k, ⟨vk, vb⟩, A, true⟩ = ⟨kd, f, k, ⟨vk, vb⟩, A, true⟩ := by simp only [fitM]; rw [if_neg (by simp), if_neg (show ¬ (kd = 0 ∧ 0 ≤ f ∧ f < P.fs.length) by omega), if_neg h6]
    rw [e]; exact ⟨a, c, rfl, readR_below HA.out hb, hb, Or.inl ⟨rfl, rfl, rfl⟩⟩)
  have HFINS : Hid (kd = 6 ∧ (locM L k).2 = 0 → ∀ w', Below w.heap.size w w' → FitEnd w a c A (fitM P L ⟨kd, f, k, ⟨vk, vb⟩, A, true⟩) (.returned (.agg #[.int .i64 kd, .int .i64 f, .int .i64 k, .int .i64 (locM L k).1.k, .int .u64 vb, .slice a A.length c, .bool true])) w') := Lib.hid (fun h6 w' hb => by
    have e : fitM P L ⟨kd, f, k, ⟨vk, vb⟩, A, true⟩ = ⟨kd, f, k, ⟨(locM L k).1.k, vb⟩, A, true⟩ := by simp only [fitM]; rw [if_neg (by simp), if_neg (show ¬ (kd = 0 ∧ 0 ≤ f ∧ f < P.fs.length) by omega), if_pos h6]
    rw [e]; exact ⟨a, c, rfl, readR_below HA.out hb, hb, Or.inl ⟨rfl, rfl, rfl⟩⟩)
  have HN := Lib.hid hn
  clear h hP hL ha fl1 fl2 fl3 hn
  unfold rp aggOp
  simp only
  go_enter Try.func63, Try.ntmps63
  go_upto_region 3 with fail
  refine wp_named ?_
  intro W hW
  have HBX : Hid (Blk W w.heap.size [.int .i64 kd, .int .i64 f, .int .i64 k, .int .i64 vk, .int .u64 vb, .slice a A.length c, .bool true]) := Lib.hid (by rw [hW]; exact (boxF2 _ _ _ _ _).1)
  have HRS : Hid (Blk W (w.heap.size + 1) [.int .i64 0, .int .i64 0, .int .i64 0, .int .i64 0, .int .u64 0, .slice none 0 0, .bool false]) := Lib.hid (by rw [hW]; exact (boxF2 _ _ _ _ _).2.1)
  have HBW : Hid (Below w.heap.size w W) := Lib.hid (by rw [hW]; exact (boxF2 _ _ _ _ _).2.2)
  have b3q := ((bcell HBW.out).1 _ _ bz').trans b3'
  have bzq := Nat.lt_of_lt_of_le bz' HBW.out.size
  obtain ⟨b0, b1, b2, b3, b4, b5, b6, bf⟩ := blk7z HBX.out
  have bz := HBX.out.1
  clear hW b3' bz'
  obtain ⟨h0, h1⟩ := HN.out
  have HH6 := Lib.hid (show ∀ ec : Int, ¬ (kd = 6 ∧ ec = 0) from fun ec z => by omega)
  have h01 : (kd == 0) = true := beq_iff_eq.2 h0
  have h61 : (kd == 6) = false := beq_false_of_ne (by omega)
  clear h0
  have h22 : ¬ (f < P.fs.length) := by omega
  obtain ⟨h1, h3⟩ := h1
  go_big_quiet (fail)
  obtain ⟨W1, hW1⟩ : ∃ x, x = W.drewN nq := ⟨_, rfl⟩
  rw [← hW1]
  have hbD : Below W.heap.size W W1 := by rw [hW1]; exact b_drewN (Below.refl _ _) _
  replace HBX := Lib.hid (blk_below HBX.out hbD)
  replace HRS := Lib.hid (blk_below HRS.out hbD)
  replace HBW := Lib.hid (b_call HBW.out hbD)
  clear hW1 hbD b0 b1 b2 b3 b4 b5 b6 bf bz b3q bzq
  obtain ⟨b0, b1, b2, b3, b4, b5, b6, bf⟩ := blk7z HBX.out
  have bz := HBX.out.1
  go_wp2_with fail
  refine (rloc_all (doc_below HDD.out HBW.out) HL.out k).mono ?_
  rintro e w3 ⟨rfl, hb3⟩
  have HBW3 := Lib.hid (b_call HBW.out hb3)
  have HBX3 := Lib.hid (blk_below HBX.out hb3)
  have HRS3 := Lib.hid (blk_below HRS.out hb3)
  have HBT3 := Lib.hid hb3
  clear hb3 b0 b1 b2 b3 b4 b5 b6 bf bz
  revert HFINS HFINK
  generalize (locM L k).2 = ec
  generalize (locM L k).1 = x
  obtain ⟨xk, xb⟩ := x
  intro HFINK HFINS
  unfold aggV
  simp only
  go_upto_region 15 with fail
  refine wp_named ?_
  intro W4 hW4
  have HX4 : Hid (Blk W4 w3.heap.size [.int .i64 xk, .int .u64 xb]) := Lib.hid (by rw [hW4]; exact blk_new _ _ _)
  have HB4 : Hid (Below w3.heap.size w3 W4) := Lib.hid (by rw [hW4]; exact b_alloc (Below.refl _ _) _)
  have HBX4 := Lib.hid (blk_below HBX3.out HB4.out)
  have HRS4 := Lib.hid (blk_below HRS3.out HB4.out)
  have HBW4 := Lib.hid (b_call HBW3.out HB4.out)
  have HBT4 := Lib.hid (b_call HBT3.out HB4.out)
  obtain ⟨b0, b1, b2, b3, b4, b5, b6, bf⟩ := blk7z HBX4.out
  have bz := HBX4.out.1
  clear hW4
  obtain ⟨r0, r1, r2, r3, r4, r5, r6, rf⟩ := blk7z HRS4.out
  have rz := HRS4.out.1
  go_wp2_with fail
  refine post_named ?_
  intro w9 hw9
  have g9 : W4.grownBy w9 (some (w.heap.size + 1)) := by rw [hw9]; exact gb_set (gb_set (gb_set (gb_set (gb_set (gb_set (gb_set (gb_refl W4 (some (w.heap.size + 1))) 0 none (.int .i64 kd)) 1 none (.int .i64 f)) 2 none (.int .i64 k)) 3 none (.int .i64 vk)) 4 none (.int .u64 vb)) 5 none (.slice a A.length c)) 6 none (.bool true)
  have u9 : Blk w9 (w.heap.size + 1) [.int .i64 kd, .int .i64 f, .int .i64 k, .int .i64 vk, .int .u64 vb, .slice a A.length c, .bool true] := by rw [hw9]; exact blk_set (blk_set (blk_set (blk_set (blk_set (blk_set (blk_set (HRS4.out) 0 (.int .i64 kd)) 1 (.int .i64 f)) 2 (.int .i64 k)) 3 (.int .i64 vk)) 4 (.int .u64 vb)) 5 (.slice a A.length c)) 6 (.bool true)
  obtain ⟨u0, u1, u2, u3, u4, u5, u6, uf⟩ := blk7z u9
  clear hw9 u9
  exact bodyPost_ret (v := .agg #[.int .i64 kd, .int .i64 f, .int .i64 k, .int .i64 vk, .int .u64 vb, .slice a A.length c, .bool true]) (by simp [results, Try.results63, go_sem, u0, u1, u2, u3, u4, u5, u6]) rfl (HFINK.out (HH6.out _) _ (b_grown HBW4.out g9 (by omega)))
end
section
open Go.RowKit
set_option linter.unusedVariables false
set_option linter.unusedSimpArgs false
attribute [local go_sem] over_cell over_frozen
variable {w0 w w' : World} {r : Nat} {q : PrV} {lv : Sl} {L : List FrM} {m : FrM}
set_option maxRecDepth 100000 in
set_option maxHeartbeats 16000000 in
theorem lfit_n0 {P : PrM} (h : DocF w0 w r q lv L) (hP : ReadP w0 q P) (hL : L.length ≤ 24) (o : OpM) {a : Option Addr} {c : Nat} (ha : ReadR valE w (.slice a o.args.length c) o.args) (hf : o.fit = true) (hn : o.kind ≠ 0) : Calls Try.prog 63 #[rp r, aggOp o.kind o.f o.k o.v a o.args.length c o.fit] w (FitEnd w a c o.args (fitM P L o)) := by
  have HDD := Lib.hid h
  have HL := Lib.hid hL
  have HA := Lib.hid ha
  obtain ⟨fl1, fl2, fl3⟩ := fns_len hP
  have fl4 := cap_le fl3
  have b3' := h.hd.2.1 3 (by simp)
  simp only [List.getElem_cons_succ, List.getElem_cons_zero] at b3'
  rw [fl1] at b3'
  have bz' := h.hd.1
  obtain ⟨kd, f, k, ⟨vk, vb⟩, A, ft⟩ := o
  simp only at hf hn HA
  subst hf
  have HFINK : Hid (¬ (kd = 6 ∧ (locM L k).2 = 0) → ∀ w', Below w.heap.size w w' → FitEnd w a c A (fitM P L ⟨kd, f, k, ⟨vk, vb⟩, A, true⟩) (.returned (.agg #[.int .i64 kd, .int .i64 f, .int .i64 k, .int .i64 vk, .int .u64 vb, .slice a A.length c, .bool true])) w') := Lib.hid (fun h6 w' hb => by
    have e : fitM P L ⟨kd, f, k, ⟨vk, vb⟩, A, true⟩ = ⟨kd, f, k, ⟨vk, vb⟩, A, true⟩ := by simp only [fitM]; rw [if_neg (by simp), if_neg (show ¬ (kd = 0 ∧ 0 ≤ f ∧ f < P.fs.length) by omega), if_neg h6]
    rw [e]; exact ⟨a, c, rfl, readR_below HA.out hb, hb, Or.inl ⟨rfl, rfl, rfl⟩⟩)
  have HFINS : Hid (kd = 6 ∧ (locM L k).2 = 0 → ∀ w', Below w.heap.size w w' → FitEnd w a c A (fitM P L ⟨kd, f, k, ⟨vk, vb⟩, A, true⟩) (.returned (.agg #[.int .i64 kd, .int .i64 f, .int .i64 k, .int .i64 (locM L k).1.k, .int .u64 vb, .slice a A.length c, .bool true])) w') := Lib.hid (fun h6 w' hb => by
    have e : fitM P L ⟨kd, f, k, ⟨vk, vb⟩, A, true⟩ = ⟨kd, f, k, ⟨(locM L k).1.k, vb⟩, A, true⟩ := by simp only [fitM]; rw [if_neg (by simp), if_neg (show ¬ (kd = 0 ∧ 0 ≤ f ∧ f < P.fs.length) by omega), if_pos h6]
    rw [e]; exact ⟨a, c, rfl, readR_below HA.out hb, hb, Or.inl ⟨rfl, rfl, rfl⟩⟩)
  have HN := Lib.hid hn
  clear h hP hL ha fl1 fl2 fl3 hn
  unfold rp aggOp
  simp only
  go_enter Try.func63, Try.ntmps63
  go_upto_region 3 with fail
  refine wp_named ?_
  intro W hW
  have HBX : Hid (Blk W w.heap.size [.int .i64 kd, .int .i64 f, .int .i64 k, .int .i64 vk, .int .u64 vb, .slice a A.length c, .bool true]) := Lib.hid (by rw [hW]; exact (boxF2 _ _ _ _ _).1)
  have HRS : Hid (Blk W (w.heap.size + 1) [.int .i64 0, .int .i64 0, .int .i64 0, .int .i64 0, .int .u64 0, .slice none 0 0, .bool false]) := Lib.hid (by rw [hW]; exact (boxF2 _ _ _ _ _).2.1)
  have HBW : Hid (Below w.heap.size w W) := Lib.hid (by rw [hW]; exact (boxF2 _ _ _ _ _).2.2)
  have b3q := ((bcell HBW.out).1 _ _ bz').trans b3'
  have bzq := Nat.lt_of_lt_of_le bz' HBW.out.size
  obtain ⟨b0, b1, b2, b3, b4, b5, b6, bf⟩ := blk7z HBX.out
  have bz := HBX.out.1
  clear hW b3' bz'
  have h01 : (kd == 0) = false := beq_false_of_ne HN.out
  go_big_quiet (fail)
  obtain ⟨W1, hW1⟩ : ∃ x, x = W.drewN nq := ⟨_, rfl⟩
  rw [← hW1]
  have hbD : Below W.heap.size W W1 := by rw [hW1]; exact b_drewN (Below.refl _ _) _
  replace HBX := Lib.hid (blk_below HBX.out hbD)
  replace HRS := Lib.hid (blk_below HRS.out hbD)
  replace HBW := Lib.hid (b_call HBW.out hbD)
  clear hW1 hbD b0 b1 b2 b3 b4 b5 b6 bf bz b3q bzq
  obtain ⟨b0, b1, b2, b3, b4, b5, b6, bf⟩ := blk7z HBX.out
  have bz := HBX.out.1
  go_wp2_with fail
  refine (rloc_all (doc_below HDD.out HBW.out) HL.out k).mono ?_
  rintro e w3 ⟨rfl, hb3⟩
  have HBW3 := Lib.hid (b_call HBW.out hb3)
  have HBX3 := Lib.hid (blk_below HBX.out hb3)
  have HRS3 := Lib.hid (blk_below HRS.out hb3)
  have HBT3 := Lib.hid hb3
  clear hb3 b0 b1 b2 b3 b4 b5 b6 bf bz
  revert HFINS HFINK
  generalize (locM L k).2 = ec
  generalize (locM L k).1 = x
  obtain ⟨xk, xb⟩ := x
  intro HFINK HFINS
  unfold aggV
  simp only
  go_upto_region 15 with fail
  refine wp_named ?_
  intro W4 hW4
  have HX4 : Hid (Blk W4 w3.heap.size [.int .i64 xk, .int .u64 xb]) := Lib.hid (by rw [hW4]; exact blk_new _ _ _)
  have HB4 : Hid (Below w3.heap.size w3 W4) := Lib.hid (by rw [hW4]; exact b_alloc (Below.refl _ _) _)
  have HBX4 := Lib.hid (blk_below HBX3.out HB4.out)
  have HRS4 := Lib.hid (blk_below HRS3.out HB4.out)
  have HBW4 := Lib.hid (b_call HBW3.out HB4.out)
  have HBT4 := Lib.hid (b_call HBT3.out HB4.out)
  obtain ⟨b0, b1, b2, b3, b4, b5, b6, bf⟩ := blk7z HBX4.out
  have bz := HBX4.out.1
  clear hW4
  by_cases h6 : kd = 6
  · have h61 : (kd == 6) = true := beq_iff_eq.2 h6
    by_cases he : ec = 0
    · have HH6 := Lib.hid (And.intro h6 he)
      have he1 : (ec == 0) = true := beq_iff_eq.2 he
      clear h6 he
      obtain ⟨x0, x1, xf⟩ := blk2 HX4.out
      have xz := HX4.out.1
      go_upto_region 17 with fail
      refine wp_named ?_
      intro W5 hW5
      have HBX5 : Hid (Blk W5 w.heap.size [.int .i64 kd, .int .i64 f, .int .i64 k, .int .i64 xk, .int .u64 vb, .slice a A.length c, .bool true]) := Lib.hid (by rw [hW5]; exact blk_set HBX4.out 3 (.int .i64 xk))
      have HRS5 : Hid (Blk W5 (w.heap.size + 1) [.int .i64 0, .int .i64 0, .int .i64 0, .int .i64 0, .int .u64 0, .slice none 0 0, .bool false]) := Lib.hid (by rw [hW5]; exact blk_other HRS4.out (p := ⟨w.heap.size, 3, none⟩) (by show w.heap.size ≠ w.heap.size + 1; omega) _)
      have HBW5 : Hid (Below w.heap.size w W5) := Lib.hid (by rw [hW5]; exact b_set HBW4.out (p := ⟨w.heap.size, 3, none⟩) (Nat.le_refl _) _)
      clear hW5 b0 b1 b2 b3 b4 b5 b6 bf bz x0 x1 xf xz
      obtain ⟨b0, b1, b2, b3, b4, b5, b6, bf⟩ := blk7z HBX5.out
      have bz := HBX5.out.1
      obtain ⟨r0, r1, r2, r3, r4, r5, r6, rf⟩ := blk7z HRS5.out
      have rz := HRS5.out.1
      go_wp2_with fail
      refine post_named ?_
      intro w9 hw9
      have g9 : W5.grownBy w9 (some (w.heap.size + 1)) := by rw [hw9]; exact gb_set (gb_set (gb_set (gb_set (gb_set (gb_set (gb_set (gb_refl W5 (some (w.heap.size + 1))) 0 none (.int .i64 kd)) 1 none (.int .i64 f)) 2 none (.int .i64 k)) 3 none (.int .i64 xk)) 4 none (.int .u64 vb)) 5 none (.slice a A.length c)) 6 none (.bool true)
      have u9 : Blk w9 (w.heap.size + 1) [.int .i64 kd, .int .i64 f, .int .i64 k, .int .i64 xk, .int .u64 vb, .slice a A.length c, .bool true] := by rw [hw9]; exact blk_set (blk_set (blk_set (blk_set (blk_set (blk_set (blk_set (HRS5.out) 0 (.int .i64 kd)) 1 (.int .i64 f)) 2 (.int .i64 k)) 3 (.int .i64 xk)) 4 (.int .u64 vb)) 5 (.slice a A.length c)) 6 (.bool true)
      obtain ⟨u0, u1, u2, u3, u4, u5, u6, uf⟩ := blk7z u9
      clear hw9 u9
      exact bodyPost_ret (v := .agg #[.int .i64 kd, .int .i64 f, .int .i64 k, .int .i64 xk, .int .u64 vb, .slice a A.length c, .bool true]) (by simp [results, Try.results63, go_sem, u0, u1, u2, u3, u4, u5, u6]) rfl (HFINS.out HH6.out _ (b_grown HBW5.out g9 (by omega)))
    · have HH6 := Lib.hid (show ¬ (kd = 6 ∧ ec = 0) from fun z => he z.2)
      have he1 : (ec == 0) = false := beq_false_of_ne he
      clear h6 he
      obtain ⟨r0, r1, r2, r3, r4, r5, r6, rf⟩ := blk7z HRS4.out
      have rz := HRS4.out.1
      go_wp2_with fail
      refine post_named ?_
      intro w9 hw9
      have g9 : W4.grownBy w9 (some (w.heap.size + 1)) := by rw [hw9]; exact gb_set (gb_set (gb_set (gb_set (gb_set (gb_set (gb_set (gb_refl W4 (some (w.heap.size + 1))) 0 none (.int .i64 kd)) 1 none (.int .i64 f)) 2 none (.int .i64 k)) 3 none (.int .i64 vk)) 4 none (.int .u64 vb)) 5 none (.slice a A.length c)) 6 none (.bool true)
      have u9 : Blk w9 (w.heap.size + 1) [.int .i64 kd, .int .i64 f, .int .i64 k, .int .i64 vk, .int .u64 vb, .slice a A.length c, .bool true] := by rw [hw9]; exact blk_set (blk_set (blk_set (blk_set (blk_set (blk_set (blk_set (HRS4.out) 0 (.int .i64 kd)) 1 (.int .i64 f)) 2 (.int .i64 k)) 3 (.int .i64 vk)) 4 (.int .u64 vb)) 5 (.slice a A.length c)) 6 (.bool true)
      obtain ⟨u0, u1, u2, u3, u4, u5, u6, uf⟩ := blk7z u9
      clear hw9 u9
      exact bodyPost_ret (v := .agg #[.int .i64 kd, .int .i64 f, .int .i64 k, .int .i64 vk, .int .u64 vb, .slice a A.length c, .bool true]) (by simp [results, Try.results63, go_sem, u0, u1, u2, u3, u4, u5, u6]) rfl (HFINK.out HH6.out _ (b_grown HBW4.out g9 (by omega)))
  · have HH6 := Lib.hid (show ¬ (kd = 6 ∧ ec = 0) from fun z => h6 z.1)
    have h61 : (kd == 6) = false := beq_false_of_ne h6
    clear h6
    obtain ⟨r0, r1, r2, r3, r4, r5, r6, rf⟩ := blk7z HRS4.out
    have rz := HRS4.out.1
    go_wp2_with fail
    refine post_named ?_
    intro w9 hw9
    have g9 : W4.grownBy w9 (some (w.heap.size + 1)) := by rw [hw9]; exact gb_set (gb_set (gb_set (gb_set (gb_set (gb_set (gb_set (gb_refl W4 (some (w.heap.size + 1))) 0 none (.int .i64 kd)) 1 none (.int .i64 f)) 2 none (.int .i64 k)) 3 none (.int .i64 vk)) 4 none (.int .u64 vb)) 5 none (.slice a A.length c)) 6 none (.bool true)
    have u9 : Blk w9 (w.heap.size + 1) [.int .i64 kd, .int .i64 f, .int .i64 k, .int .i64 vk, .int .u64 vb, .slice a A.length c, .bool true] := by rw [hw9]; exact blk_set (blk_set (blk_set (blk_set (blk_set (blk_set (blk_set (HRS4.out) 0 (.int .i64 kd)) 1 (.int .i64 f)) 2 (.int .i64 k)) 3 (.int .i64 vk)) 4 (.int .u64 vb)) 5 (.slice a A.length c)) 6 (.bool true)
    obtain ⟨u0, u1, u2, u3, u4, u5, u6, uf⟩ := blk7z u9
    clear hw9 u9
    exact bodyPost_ret (v := .agg #[.int .i64 kd, .int .i64 f, .int .i64 k, .int .i64 vk, .int .u64 vb, .slice a A.length c, .bool true]) (by simp [results, Try.results63, go_sem, u0, u1, u2, u3, u4, u5, u6]) rfl (HFINK.out HH6.out _ (b_grown HBW4.out g9 (by omega)))
end
end Go.Proofs.Ytdmidnmciaediaa
