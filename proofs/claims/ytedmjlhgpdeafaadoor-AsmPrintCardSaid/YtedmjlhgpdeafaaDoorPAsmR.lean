/- Layer 34: the program's Line. Conditions: those stated. -/
import Derived.Test.YtedmjlhgpdeafaaDoorPAsmJ
namespace Go.Proofs.YtedmjlhgpdeafaaDoor
open Go.RowKit
set_option linter.unusedVariables false
set_option linter.unusedSimpArgs false
set_option maxRecDepth 100000 in
set_option maxHeartbeats 2000000 in
theorem aline_no (op x a b : Int) (hm : mayB op x a b = false) (w : World) : Calls Tryd.prog 13 #[.agg #[.int .i64 op, .int .u64 x, .int .i64 a, .int .i64 b]] w fun e w' => e = .returned (.tuple #[strV [], .int .i64 1]) ∧ Below w.heap.size w w' := by
  have HM := Lib.hid (fun w => may_any op x a b w)
  rw [hm] at HM
  clear hm
  go_enter Tryd.func13, Tryd.ntmps13
  go_upto_region 1 with fail
  refine wp_named ?_
  intro W1 hW1
  have HX1 : Hid (Blk W1 w.heap.size [.int .i64 op, .int .u64 x, .int .i64 a, .int .i64 b]) := Lib.hid (by rw [hW1]; exact blk_new _ _ _)
  have HB1 : Hid (Below w.heap.size w W1) := Lib.hid (by rw [hW1]; exact b_alloc (Below.refl _ _) _)
  clear hW1
  obtain ⟨c0, c1, c2, c3, cf⟩ := blk4 HX1.out
  have cz := HX1.out.1
  go_wp2_with fail
  refine (HM.out _).mono ?_
  rintro e w2 ⟨rfl, hb2⟩
  have HB2 := Lib.hid (b_call HB1.out hb2)
  clear hb2
  go_wp2_with fail
  go_ret2
  exact ⟨rfl, HB2.out⟩
/-- What stands behind the name and the wide number. -/
def tailL (vs : List Int) : List UInt8 := vs.flatMap fun v => [32] ++ numI v
theorem tail_snoc {vs : List Int} {k : Nat} (h : k < vs.length) : tailL (vs.take (k + 1)) = tailL (vs.take k) ++ ([32] ++ numI (vs[k])) := by
  unfold tailL
  rw [List.take_succ_eq_append_getElem h, List.flatMap_append]
  simp
def argV (κ : Nat) (a b : Int) : List Int := if κ = 3 then [a, b] else if κ = 2 then [a] else []
theorem line_eq {k κ : Nat} {x a b : Int} (hκ : kindOf (k : Int) = κ) (h : κ ≤ 3) : lineL ⟨k, x, a, b⟩ = (nameL k ++ (if κ = 1 then [32] ++ wideL x else [])) ++ tailL (argV κ a b) := by
  unfold lineL argsL tailL argV
  simp only [hκ, Int.toNat_natCast]
  rcases (by omega : κ = 0 ∨ κ = 1 ∨ κ = 2 ∨ κ = 3) with rfl | rfl | rfl | rfl <;> simp
set_option maxRecDepth 100000 in
set_option maxHeartbeats 4000000 in
theorem aline_yes (op x a b : Int) (hm : mayB op x a b = true) (hx0 : 0 ≤ x) (hx1 : x < 18446744073709551616) (w : World) : Calls Tryd.prog 13 #[.agg #[.int .i64 op, .int .u64 x, .int .i64 a, .int .i64 b]] w fun e w' => e = .returned (.tuple #[strV (lineL ⟨op, x, a, b⟩), .int .i64 0]) ∧ Below w.heap.size w w' := by
  obtain ⟨⟨o0, o1⟩, ⟨a0, a1⟩, b0, b1⟩ := may_bd hm
  have h4 : kindOf op ≠ 4 := fun q => by rw [may_four q] at hm; cases hm
  have h5 := kind_le op
  have HM := Lib.hid (fun w => may_any op x a b w)
  rw [hm] at HM
  obtain ⟨k, rfl⟩ : ∃ k : Nat, op = k := ⟨op.toNat, by omega⟩
  obtain ⟨κ, hκ⟩ : ∃ κ, kindOf (k : Int) = κ := ⟨_, rfl⟩
  rw [hκ] at h4 h5
  have HLN := Lib.hid (line_eq (x := x) (a := a) (b := b) hκ (by omega))
  have hvl : (argV κ a b).length = (if κ = 3 then 2 else if κ = 2 then 1 else 0) := by unfold argV; split <;> (try split) <;> rfl
  have hvb : ∀ v ∈ argV κ a b, 0 ≤ v ∧ v ≤ 65535 := by
    intro v hv
    unfold argV at hv
    split at hv
    · simp at hv; rcases hv with rfl | rfl <;> omega
    · split at hv
      · simp at hv; rw [hv]; omega
      · cases hv
  have hvc : ∀ j (h : j < (argV κ a b).length), ([a, b] : List Int)[j]? = some ((argV κ a b)[j]) := by
    intro j h
    unfold argV at h ⊢
    split
    · rw [if_pos ‹_›] at h
      exact List.getElem?_eq_getElem h
    · rw [if_neg ‹_›] at h
      split
      · rw [if_pos ‹_›] at h
        simp at h
        subst h; rfl
      · rw [if_neg ‹_›] at h
        simp at h
  have hsh := fun w => shape_of k κ hκ h4 w
  obtain ⟨vs, hvs⟩ : ∃ vs, vs = argV κ a b := ⟨_, rfl⟩
  obtain ⟨n, hn⟩ : ∃ n : Nat, n = vs.length := ⟨_, rfl⟩
  have hn2 : n ≤ 2 := by rw [hn, hvs, hvl]; split <;> (try split) <;> omega
  have HSH : Hid (∀ w, Calls Tryd.prog 35 #[.int .i64 k] w fun e w' => e = .returned (.tuple #[.int .i64 (n : Int), .bool (κ == 1), .bool true]) ∧ w = w') := Lib.hid (fun w => by
    have q := hsh w
    rw [hn, hvs, hvl]
    have e : (((if κ = 3 then 2 else if κ = 2 then 1 else 0 : Nat) : Nat) : Int) = (if κ = 3 then (2 : Int) else if κ = 2 then 1 else 0) := by split <;> (try split) <;> rfl
    rw [e]; exact q)
  rw [← hvs] at HLN hvl hvb hvc
  have HVB := Lib.hid hvb
  have HVC := Lib.hid hvc
  have HN := Lib.hid hn
  obtain ⟨y, hy⟩ : ∃ y, nameL k = y := ⟨_, rfl⟩
  have hyl : y.length ≤ 6 := by rw [← hy]; exact name_len _
  have HNM : Hid (∀ w, Calls Tryd.prog 36 #[.int .i64 k] w fun e w' => e = .returned (.string ⟨y.toArray⟩) ∧ Below w.heap.size w w') := Lib.hid (fun w => by
    have q := name_any (k : Int) w
    have e : (Value.string (nameB (k : Int))) = .string ⟨(nameL k).toArray⟩ := by
      unfold nameB
      rw [if_pos (by omega), Int.toNat_natCast]
      exact strV_of _
    rw [e, hy] at q
    exact q)
  rw [hy] at HLN
  have HWD : Hid (∀ w, Calls Tryd.prog 37 #[.int .u64 x] w fun e w' => e = .returned (strV (wideL x)) ∧ Below w.heap.size w w') := Lib.hid (fun w => by
    have q := awide_any x.toNat (by omega) w
    rw [show ((x.toNat : Nat) : Int) = x by omega] at q
    exact q)
  have hwl2 : (wideL x).length ≤ 18 := by have := wide_len x; omega
  have HDG : Hid (∀ (v : Int) w, 0 ≤ v → v ≤ 65535 → Calls Tryd.prog 38 #[.int .i64 v] w fun e w' => e = .returned (strV (numI v)) ∧ w = w') := Lib.hid (fun v w h1 h2 => by
    have q := adigits_any v.toNat (by omega) w
    rw [show ((v.toNat : Nat) : Int) = v by omega] at q
    exact q)
  obtain ⟨xb, hxb⟩ : ∃ xb, xb = (κ == 1) := ⟨_, rfl⟩
  rw [← hxb] at HSH
  have HPR : Hid ((if κ = 1 then [32] ++ wideL x else []) = (if xb = true then [32] ++ wideL x else [])) := Lib.hid (by rw [hxb]; by_cases q : κ = 1 <;> simp [q])
  rw [HPR.out] at HLN
  clear hm hκ h4 h5 hvl hvb hvc hsh hvs hn hy hxb o0 o1 a0 a1 b0 b1 HPR
  unfold strV at HWD
  go_enter Tryd.func13, Tryd.ntmps13
  go_upto_region 1 with fail
  refine wp_named ?_
  intro W1 hW1
  have HX1 : Hid (Blk W1 w.heap.size [.int .i64 k, .int .u64 x, .int .i64 a, .int .i64 b]) := Lib.hid (by rw [hW1]; exact blk_new _ _ _)
  have HB1 : Hid (Below w.heap.size w W1) := Lib.hid (by rw [hW1]; exact b_alloc (Below.refl _ _) _)
  clear hW1
  obtain ⟨c0, c1, c2, c3, cf⟩ := blk4 HX1.out
  have cz := HX1.out.1
  go_wp2_with fail
  refine (HM.out _).mono ?_
  rintro e w2 ⟨rfl, hb2⟩
  have HX2 := Lib.hid (blk_below HX1.out hb2)
  have HB2 := Lib.hid (b_call HB1.out hb2)
  clear hb2 c0 c1 c2 c3 cf cz
  obtain ⟨c0, c1, c2, c3, cf⟩ := blk4 HX2.out
  have cz := HX2.out.1
  go_wp2_with fail
  refine (HSH.out _).mono ?_
  rintro e w3 ⟨rfl, rfl⟩
  go_wp2_with fail
  refine (HNM.out _).mono ?_
  rintro e w3 ⟨rfl, hb3⟩
  have HX3 := Lib.hid (blk_below HX2.out hb3)
  have HB3 := Lib.hid (b_call HB2.out hb3)
  clear hb3 c0 c1 c2 c3 cf cz
  obtain ⟨c0, c1, c2, c3, cf⟩ := blk4 HX3.out
  have cz := HX3.out.1
  go_upto_if 23 with fail
  go_cut [7] (fun s wc => ∃ t : List UInt8, s = strV t ∧ Hid (t = y ++ (if xb = true then [32] ++ wideL x else [])) ∧ Hid (Below w3.heap.size w3 wc))
  case first =>
    cases xb with
    | true =>
      go_wp2_with fail
      refine (HWD.out _).mono ?_
      rintro e w4 ⟨rfl, hb4⟩
      have HB4 := Lib.hid hb4
      clear hb4
      go_wp2_with fail
      go_meet
      case rel => exact ⟨y ++ ([32] ++ wideL x), congrArg Value.string (by rw [ba_append [32] (wideL x)]; exact ba_append y _), Lib.hid (by simp), HB4⟩
    | false =>
      go_wp2_with fail
      go_meet
      case rel => exact ⟨y, rfl, Lib.hid (by simp), Lib.hid (Below.refl _ _)⟩
  case rest =>
  obtain ⟨t, rfl, HT, HBC⟩ := hcut
  have htl : t.length ≤ 25 := by
    rw [HT.out, List.length_append]
    split <;> simp <;> omega
  unfold strV
  clear c0 c1 c2 c3 cf cz
  have HXC := Lib.hid (blk_below HX3.out HBC.out)
  obtain ⟨c0, c1, c2, c3, cf⟩ := blk4 HXC.out
  have cz := HXC.out.1
  have hnn : (n : Int) ≤ 2 := by omega
  have hn0 : (0 : Int) ≤ n := by omega
  go_upto_region 8 with fail
  refine wp_named ?_
  intro W5 hW5
  have HR5 : Hid (Blk W5 wc.heap.size [.int .i64 a, .int .i64 b]) := Lib.hid (by rw [hW5]; exact blk_new _ _ _)
  have HB5 : Hid (Below w.heap.size w W5) := Lib.hid (by rw [hW5]; exact b_alloc (b_call HB3.out HBC.out) _)
  clear hW5
  go_loopw [7, 38] (fun s i wr => wr = W5 ∧ ∃ j : Nat, j ≤ n ∧ i = .int .i64 j ∧ ∃ l : List UInt8, s = strV l ∧ l.length ≤ 25 + 6 * j ∧ Hid (l = t ++ tailL (vs.take j))) (fun _ i _ => n - (intOf i).toNat)
  case atStart => exact ⟨rfl, 0, Nat.zero_le _, rfl, t, rfl, by omega, Lib.hid (by rw [List.take_zero]; simp [tailL])⟩
  case round =>
    obtain ⟨hwr, j, hj, rfl, l, rfl, hll, HL⟩ := hrel
    replace hwr := hwr.symm
    subst hwr
    have hj0 : (0 : Int) ≤ j := by omega
    unfold strV
    by_cases hlt : j < n
    · have hjn : (j : Int) < n := by omega
      have HLT := Lib.hid hlt
      have hjv : j < vs.length := by rw [← HN.out]; exact hlt
      have hv := HVB.out _ (List.getElem_mem hjv)
      have hcl : W5.cell? ⟨wc.heap.size, j, none⟩ = some (.int .i64 (vs[j])) := by
        have q := HVC.out j hjv
        obtain ⟨hq, q⟩ := List.getElem?_eq_some_iff.1 q
        rw [← q]
        have e := HR5.out.2.1 j (by simpa using hq)
        rw [e]
        have : j = 0 ∨ j = 1 := by simp at hq; omega
        rcases this with rfl | rfl <;> rfl
      have HTS := Lib.hid (tail_snoc hjv)
      have HD := Lib.hid (fun w => HDG.out _ w hv.1 hv.2)
      have hnl : (numI (vs[j])).length ≤ 5 := numI_len hv.2
      unfold strV at HD
      have bz := HR5.out.1
      obtain ⟨v, hve⟩ : ∃ v, v = vs[j] := ⟨_, rfl⟩
      rw [← hve] at hcl HTS HD hnl
      clear hv hve hjv
      go_wp2_with fail
      refine (HD.out _).mono ?_
      rintro e w6 ⟨rfl, rfl⟩
      go_wp2_with fail
      refine ⟨⟨trivial, j + 1, by have := HLT.out; omega, by first | rfl | go_num, l ++ ([32] ++ numI v), congrArg Value.string (by rw [ba_append [32] (numI v)]; exact ba_append l _), by simp; omega, Lib.hid (by rw [HTS.out, HL.out]; simp)⟩, by have := HLT.out; simp [intOf] <;> omega⟩
    · have hjn : (n : Int) ≤ j := by omega
      have HE : Hid (lineL ⟨(k : Int), x, a, b⟩ = l) := Lib.hid (by rw [HLN.out, HL.out, HT.out, List.take_of_length_le (by have := HN.out; omega)])
      go_wp2_with fail
      go_ret2
      exact ⟨by rw [HE.out]; rfl, HB5.out⟩
end Go.Proofs.YtedmjlhgpdeafaaDoor
