/- Layer 28: the references among values; the contracts of frame's refs and picked. Conditions: what is asked reads as lists, and is not too great. Layer 28, plain: the references by the maps and by the values' kinds. No program in sight. No conditions beside those stated. Layer 28: the contracts of Refs. Conditions: what is asked reads as lists, and is not too great. -/
import Derived.Test.YtdmidnmciaediaaWFrZ
import Derived.Deep.DeepCutAuto
namespace Go.Proofs.Ytdmidnmciaediaa
section
open Go.RowKit
set_option linter.unusedVariables false
set_option linter.unusedSimpArgs false
attribute [local go_sem] over_cell over_frozen
/-- A value's reference. -/
def refI (b : Int) : Int := wrap64 (wrap64 b - 1)
def refV (M : List ValM) : List Int := M.filterMap (fun v => if v.k = 2 ∧ 0 < v.b then some (refI v.b) else none)
theorem refV_take {M : List ValM} {k : Nat} (hk : k < M.length) : refV (M.take (k + 1)) = refV (M.take k) ++ (if M[k].k = 2 ∧ 0 < M[k].b then [refI M[k].b] else []) := by
  unfold refV
  rw [List.take_succ_eq_append_getElem hk, List.filterMap_append]
  congr 1
  by_cases q : M[k].k = 2 ∧ 0 < M[k].b
  · rw [if_pos q, List.filterMap_cons_some (by rw [if_pos q])]; rfl
  · rw [if_neg q, List.filterMap_cons_none (by rw [if_neg q])]; rfl
theorem refV_len (M : List ValM) : (refV M).length ≤ M.length := List.length_filterMap_le _ _
/-- What refs gives back: the row on which it went on, or a new one. -/
def RefsEnd (B : Nat) (w : World) (u : Value) (Y : List Int) (e : Ending) (w' : World) : Prop := ∃ a c, e = .returned (.slice a Y.length c) ∧ OwnR intE 3 w' B (.slice a Y.length c) Y ∧ GrowX w w' (fun j => u.ownBlock = some j) ∧ ∀ k, (Value.slice a Y.length c).ownBlock = some k → u.ownBlock = some k ∨ w.heap.size ≤ k
set_option maxHeartbeats 1000000 in
theorem frefs_any (B : Nat) (u v : Value) (X : List Int) (M : List ValM) (w : World) (hB : B ≤ w.heap.size) (ho : OwnR intE 3 w B u X) (h : ReadR valE w v M) (hv : ∀ k, v.ownBlock = some k → u.ownBlock ≠ some k) (hX : X.length ≤ 100000) (hl : M.length ≤ 1000) : Calls Try.prog 74 #[u, v] w (RefsEnd B w u (X ++ refV M)) := by
  obtain ⟨a, c, rfl, m2, m3⟩ := readR_len h
  obtain ⟨a0, c0, rfl, q2, q3⟩ := readR_len (ownR_read ho)
  have hcap := cap_le m3
  have H := Lib.hid h; have HO := Lib.hid ho; have HV := Lib.hid hv; have HX := Lib.hid hX
  have hl1 : (M.length : Int) ≤ 1000 := by omega
  clear h ho hv m3 q2 q3 hX
  go_enter Try.func74, Try.ntmps74
  go_wp2_with fail
  go_loopw [0, 9] (fun v i wr => ∃ k : Nat, k ≤ M.length ∧ i = .int .i64 k ∧ (∃ (a' : Option Addr) (n c' : Nat) (Y : List Int), v = .slice a' n c' ∧ n = Y.length ∧ Hid (Y = X ++ refV (M.take k)) ∧ Hid (OwnR intE 3 wr B (.slice a' Y.length c') Y) ∧ Hid (∀ k, (Value.slice a' Y.length c').ownBlock = some k → (Value.slice a0 X.length c0).ownBlock = some k ∨ w.heap.size ≤ k)) ∧ Hid (GrowX w wr (fun j => (Value.slice a0 X.length c0).ownBlock = some j))) (fun _ i _ => M.length - (intOf i).toNat)
  case atStart => exact ⟨0, Nat.zero_le _, rfl, ⟨a0, X.length, c0, X, rfl, rfl, Lib.hid (by simp [refV]), HO, Lib.hid (fun k hk => Or.inl hk)⟩, Lib.hid (gx_refl _ _)⟩
  case round =>
    obtain ⟨W1, hW1⟩ : ∃ x, x = wr := ⟨_, rfl⟩
    subst hW1
    obtain ⟨k, hk, rfl, ⟨a', n', c', Y, rfl, rfl, HEQ, HOW, HOB⟩, HG⟩ := hrel
    have k0 : (0 : Int) ≤ k := by omega
    by_cases hlt : k < M.length
    · have k1 : (k : Int) < M.length := by omega
      have kc : (k : Int) < c := by omega
      obtain ⟨bl, off, cp, e1, r1, r2, hbl, r4⟩ := valR_pos (readR_gx H.out HG.out (fun j hj => HV.out j hj)) (by omega)
      injection e1 with e1 _ e3
      subst e1
      obtain ⟨x0, x1⟩ := r4 k hlt
      have HT := Lib.hid (refV_take hlt)
      have hYL : Y.length ≤ 101000 := by
        rw [HEQ.out, List.length_append]
        have q := refV_len (M.take k)
        rw [List.length_take] at q
        have := HX.out
        omega
      generalize M[k] = x at *
      obtain ⟨xk, xb⟩ := x
      simp only at x0 x1 HT
      clear r4 r1 r2 e3
      go_upto_region 4 with fail
      refine wp_named ?_
      intro W5 hW5
      have S5 : Blk W5 W1.heap.size [.int .i64 xk, .int .u64 xb] ∧ Below W1.heap.size W1 W5 := by
        rw [hW5]; exact ⟨blk_new _ _ _, b_alloc (Below.refl _ _) _⟩
      have HO5 := Lib.hid (ownR_below HOW.out S5.2)
      have HG5 := Lib.hid (gx_call HG.out S5.2)
      have hbs := HG5.out.size
      have hBs : B ≤ W5.heap.size := by omega
      obtain ⟨z0, z1, _⟩ := blk2 S5.1
      have zz := S5.1.1
      clear hW5 S5 x0 x1 hbl
      by_cases hp : xk = 2 ∧ 0 < xb
      · rw [if_pos hp] at HT
        obtain ⟨rfl, hp2⟩ := hp
        go_wp2_with (at_builtin; refine append1 (c := intE) rowInt (by rfl) _ _ (by rfl) (by rfl) (v := .slice a' Y.length c') (L := Y) (B := B) (ownR_alloc HO5.out _) (refI xb) _ 1 (by rfl) (blk_new _ _ _) ?c1 ?c2 ?c3 ?_; (case c1 => (omega)); (case c2 => (unfold maxLen; omega)); (case c3 => (simp; omega)); intro g9 cap9 w9 ho9 hg9 hor9 hl9; have HO9 := Lib.hid ho9; have HG9 := Lib.hid hg9; have HR9 := Lib.hid hor9; clear ho9 hg9 hor9 hl9)
        go_roundw
        case rel =>
          refine ⟨k + 1, by omega, by first | rfl | go_num, ⟨some ⟨g9, 0, none⟩, Y.length + 1, cap9, Y ++ [refI xb], rfl, by simp, Lib.hid (by rw [HT.out, HEQ.out, List.append_assoc]), Lib.hid (by rw [List.length_append]; exact HO9.out), Lib.hid (fun j hj => ?_)⟩, Lib.hid ?_⟩
          · have e9 : g9 = j := by simpa [Value.ownBlock] using hj
            subst e9
            rcases HR9.out with q | q
            · exact HOB.out _ q
            · right; rw [q, World.size_alloc]; omega
          · refine gx_trans (gx_alloc HG5.out _) (gx_gb HG9.out (X := fun j => (Value.slice a' Y.length c').ownBlock = some j) (fun j hj => hj)) (fun _ _ q => q) (fun j hj q => ?_)
            rcases HOB.out j q with q | q
            · exact q
            · omega
        case measure => simp [intOf]; omega
      · rw [if_neg hp, List.append_nil] at HT
        by_cases hk2 : xk = 2
        · subst hk2
          have hp2 : ¬ (0 < xb) := fun q => hp ⟨rfl, q⟩
          clear hp
          go_wp2_with fail
          go_roundw
          case rel => exact ⟨k + 1, by omega, by first | rfl | go_num, ⟨a', Y.length, c', Y, rfl, rfl, Lib.hid (by rw [HT.out, HEQ.out]), HO5, HOB⟩, HG5⟩
          case measure => simp [intOf]; omega
        · have hxb : (xk == 2) = false := beq_false_of_ne hk2
          clear hp hk2
          go_wp2_with fail
          go_roundw
          case rel => exact ⟨k + 1, by omega, by first | rfl | go_num, ⟨a', Y.length, c', Y, rfl, rfl, Lib.hid (by rw [HT.out, HEQ.out]), HO5, HOB⟩, HG5⟩
          case measure => simp [intOf]; omega
    · have k1 : ¬ ((k : Int) < M.length) := by omega
      have HF : Hid (Y = X ++ refV M) := Lib.hid (by rw [HEQ.out, List.take_of_length_le (by omega)])
      go_wp2_with fail
      go_ret
      show RefsEnd B w (.slice a0 X.length c0) (X ++ refV M) (.returned (.slice a' Y.length c')) W1
      rw [← HF.out]
      exact ⟨a', c', rfl, HOW.out, HG.out, HOB.out⟩
/-- The values at some places that there are. -/
def picksM (M : List ValM) (S : List Int) : List ValM := S.filterMap (fun (k : Int) => if k < M.length then some (M.getD k.toNat ⟨0, 0⟩) else none)
theorem picks_take {M : List ValM} {S : List Int} {k : Nat} (hk : k < S.length) : picksM M (S.take (k + 1)) = picksM M (S.take k) ++ (if S[k] < M.length then [M.getD S[k].toNat ⟨0, 0⟩] else []) := by
  unfold picksM
  rw [List.take_succ_eq_append_getElem hk, List.filterMap_append]
  congr 1
  by_cases q : S[k] < M.length
  · rw [if_pos q, List.filterMap_cons_some (by rw [if_pos q])]; rfl
  · rw [if_neg q, List.filterMap_cons_none (by rw [if_neg q])]; rfl
theorem picks_pre {M : List ValM} (S : List Int) (k : Nat) : (picksM M (S.take k)).length ≤ (picksM M S).length := by
  have e : picksM M S = picksM M (S.take k) ++ picksM M (S.drop k) := by
    unfold picksM
    rw [← List.filterMap_append, List.take_append_drop]
  rw [e, List.length_append]; omega
def PickEnd (w : World) (Y : List ValM) (e : Ending) (w' : World) : Prop := ∃ a c, e = .returned (.slice a Y.length c) ∧ OwnR valE VALT w' w.heap.size (.slice a Y.length c) Y ∧ Below w.heap.size w w'
set_option maxHeartbeats 1000000 in
theorem fpick_any (v s : Value) (M : List ValM) (S : List Int) (w : World) (h : ReadR valE w v M) (hs : ReadI w s S) (h0 : ∀ k ∈ S, 0 ≤ k) (hl : (picksM M S).length ≤ 1000) (hM : M.length ≤ 1000) (hS : S.length ≤ 17592186044415) : Calls Try.prog 75 #[v, s] w (PickEnd w (picksM M S)) := by
  obtain ⟨a, c, rfl, m2, m3⟩ := readR_len h
  obtain ⟨a0, c0, rfl⟩ := readI_len hs
  have hcap := cap_le m3
  have H := Lib.hid h; have HS := Lib.hid hs; have HL := Lib.hid hl; have H0 := Lib.hid h0
  have hl1 : (M.length : Int) ≤ 1000 := by omega
  have hl2 : (S.length : Int) ≤ 17592186044415 := by omega
  clear h hs m3 h0 hl
  go_enter Try.func75, Try.ntmps75
  go_wp2_with fail
  go_loopw [5, 10] (fun v i wr => ∃ k : Nat, k ≤ S.length ∧ i = .int .i64 k ∧ (∃ (a' : Option Addr) (n c' : Nat) (Y : List ValM), v = .slice a' n c' ∧ n = Y.length ∧ Hid (Y = picksM M (S.take k)) ∧ Hid (OwnR valE VALT wr w.heap.size (.slice a' Y.length c') Y)) ∧ Hid (Below w.heap.size w wr)) (fun _ i _ => S.length - (intOf i).toNat)
  case atStart => exact ⟨0, Nat.zero_le _, rfl, ⟨none, 0, 0, [], rfl, rfl, Lib.hid rfl, Lib.hid (ownR_nil _ _)⟩, Lib.hid (Below.refl _ _)⟩
  case round =>
    obtain ⟨W1, hW1⟩ : ∃ x, x = wr := ⟨_, rfl⟩
    subst hW1
    obtain ⟨k, hk, rfl, ⟨a', n', c', Y, rfl, rfl, HEQ, HOW⟩, HB⟩ := hrel
    have k0 : (0 : Int) ≤ k := by omega
    by_cases hlt : k < S.length
    · have k1 : (k : Int) < S.length := by omega
      obtain ⟨bl, off, cp, e1, r1, r2, hbl, r4⟩ := readI_pos (readI_below HS.out HB.out) (by omega)
      injection e1 with e1 _ e3
      subst e1
      have hcx := r4 k hlt
      rw [List.getD_eq_getElem?_getD, List.getElem?_eq_getElem hlt, Option.getD_some] at hcx
      have HT := Lib.hid (picks_take (M := M) hlt)
      have hx0 : 0 ≤ S[k] := H0.out _ (List.getElem_mem hlt)
      have hYL : Y.length ≤ 1000 := by
        rw [HEQ.out]
        exact Nat.le_trans (picks_pre S k) HL.out
      have hbs := HB.out.size
      generalize S[k] = x at *
      clear r4 r1 r2 e3
      by_cases hp : x < M.length
      · rw [if_pos hp] at HT
        obtain ⟨j, rfl⟩ : ∃ j : Nat, x = j := ⟨x.toNat, by omega⟩
        have hj : j < M.length := by omega
        have jc : (j : Int) < c := by omega
        obtain ⟨bm, om, cm, f1, f2, f3, hbm, f4⟩ := valR_pos (readR_below H.out HB.out) (by omega)
        injection f1 with f1 _ f5
        subst f1
        obtain ⟨x0, x1⟩ := f4 j hj
        rw [Int.toNat_natCast, getD_at9 hj] at HT
        generalize M[j] = y at *
        obtain ⟨yk, yb⟩ := y
        simp only at x0 x1
        clear f2 f3 f4 f5
        go_wp2_with (at_builtin; refine append1 (c := valE) valT (by rfl) _ _ (by rfl) (by rfl) (v := .slice a' Y.length c') (L := Y) (B := w.heap.size) (ownR_alloc HOW.out _) (⟨yk, yb⟩ : ValM) _ 1 (by rfl) (blk_new _ _ _) ?c1 ?c2 ?c3 ?_; (case c1 => (omega)); (case c2 => (unfold maxLen; omega)); (case c3 => (simp; omega)); intro g9 cap9 w9 ho9 hg9 hor9 hl9; have HO9 := Lib.hid ho9; have HG9 := Lib.hid hg9; clear ho9 hg9 hor9 hl9)
        go_roundw
        case rel =>
          exact ⟨k + 1, by omega, by first | rfl | go_num, ⟨some ⟨g9, 0, none⟩, Y.length + 1, cap9, Y ++ [⟨yk, yb⟩], rfl, by simp, Lib.hid (by rw [HT.out, HEQ.out]), Lib.hid (by rw [List.length_append]; exact HO9.out)⟩, Lib.hid (b_ownR (b_alloc HB.out _) (ownR_alloc HOW.out _) HG9.out)⟩
        case measure => simp [intOf]; omega
      · rw [if_neg hp, List.append_nil] at HT
        go_wp2_with fail
        go_roundw
        case rel => exact ⟨k + 1, by omega, by first | rfl | go_num, ⟨a', Y.length, c', Y, rfl, rfl, Lib.hid (by rw [HT.out, HEQ.out]), HOW⟩, HB⟩
        case measure => simp [intOf]; omega
    · have k1 : ¬ ((k : Int) < S.length) := by omega
      have HF : Hid (Y = picksM M S) := Lib.hid (by rw [HEQ.out, List.take_of_length_le (by omega)])
      go_wp2_with fail
      go_ret
      show PickEnd w (picksM M S) (.returned (.slice a' Y.length c')) W1
      rw [← HF.out]
      exact ⟨a', c', rfl, HOW.out, HB.out⟩
end
section
set_option linter.unusedVariables false
set_option linter.unusedSimpArgs false
/-- The references of values that are told to be ones. -/
def refW : List ValM → List Int → List Int
  | [], _ => []
  | _ :: _, [] => []
  | v :: M, c :: ks => (if v.k = 2 ∧ 0 < v.b ∧ c = 2 then [refI v.b] else []) ++ refW M ks
theorem refW_nil (M : List ValM) : refW M [] = [] := by cases M <;> rfl
theorem refW_take : ∀ (M : List ValM) (ks : List Int) (k : Nat) (hk : k < M.length), refW (M.take (k + 1)) ks = refW (M.take k) ks ++ (if M[k].k = 2 ∧ 0 < M[k].b ∧ ks[k]? = some 2 then [refI M[k].b] else [])
  | v :: M, [], k, hk => by rw [refW_nil, refW_nil, if_neg (by simp)]; rfl
  | v :: M, c :: ks, 0, hk => by
    have e1 : (v :: M).take (0 + 1) = [v] := by simp
    have e2 : (v :: M).take 0 = [] := rfl
    rw [e1, e2]
    show (if v.k = 2 ∧ 0 < v.b ∧ c = 2 then [refI v.b] else []) ++ [] = [] ++ (if v.k = 2 ∧ 0 < v.b ∧ some c = some 2 then [refI v.b] else [])
    rw [List.append_nil, List.nil_append]
    by_cases q : v.k = 2 ∧ 0 < v.b ∧ c = 2
    · rw [if_pos q, if_pos ⟨q.1, q.2.1, by rw [q.2.2]⟩]
    · rw [if_neg q, if_neg (fun z => q ⟨z.1, z.2.1, by injection z.2.2⟩)]
  | v :: M, c :: ks, k + 1, hk => by
    have ih := refW_take M ks k (by simpa using hk)
    rw [List.take_succ_cons, List.take_succ_cons]
    show _ ++ refW (M.take (k + 1)) ks = (_ ++ refW (M.take k) ks) ++ _
    rw [ih, List.append_assoc]
    rfl
theorem refW_right : ∀ (M : List ValM) (ks : List Int), (∀ i, (h : i < M.length) → ks[i]? = some M[i].k) → refW M ks = refV M
  | [], _, _ => rfl
  | v :: M, [], h => by have := h 0 (by simp); simp at this
  | v :: M, c :: ks, h => by
    have h0 := h 0 (by simp)
    have e : c = v.k := by simpa using h0
    have ih := refW_right M ks (fun i hi => by have := h (i + 1) (by simpa using hi); simpa using this)
    show (if v.k = 2 ∧ 0 < v.b ∧ c = 2 then [refI v.b] else []) ++ refW M ks = refV (v :: M)
    rw [ih]
    unfold refV
    by_cases q : v.k = 2 ∧ 0 < v.b
    · rw [List.filterMap_cons_some (by rw [if_pos q]), if_pos ⟨q.1, q.2, by rw [e]; exact q.1⟩]; rfl
    · rw [List.filterMap_cons_none (by rw [if_neg q]), if_neg (fun z => q ⟨z.1, z.2.1⟩)]; rfl
theorem refW_kinds (M : List ValM) : refW M (kindsV M) = refV M := refW_right M _ (fun i h => by unfold kindsV; rw [List.getElem?_map, List.getElem?_eq_getElem h]; rfl)
theorem refV_cons (v : ValM) (M : List ValM) : refV (v :: M) = (if v.k = 2 ∧ 0 < v.b then [refI v.b] else []) ++ refV M := by
  unfold refV
  by_cases q : v.k = 2 ∧ 0 < v.b
  · rw [if_pos q, List.filterMap_cons_some (by rw [if_pos q])]; rfl
  · rw [if_neg q, List.filterMap_cons_none (by rw [if_neg q])]; rfl
/-- All references, by the values' kinds. -/
def refsAll (L : List FrM) : List Int := L.flatMap (fun m => refV m.loc ++ refV m.stk)
theorem flatMap_take {α : Type} (f : α → List Int) (L : List α) (k : Nat) (hk : k < L.length) : (L.take (k + 1)).flatMap f = (L.take k).flatMap f ++ f L[k] := by
  rw [List.take_succ_eq_append_getElem hk, List.flatMap_append]
  simp
theorem flatMap_len {α : Type} {f : α → List Int} {n : Nat} : ∀ (L : List α), (∀ x ∈ L, (f x).length ≤ n) → (L.flatMap f).length ≤ n * L.length
  | [], _ => Nat.zero_le _
  | x :: L, h => by
    have ih := flatMap_len L (fun y hy => h y (List.mem_cons_of_mem _ hy))
    have h0 := h x (List.mem_cons_self ..)
    rw [List.flatMap_cons, List.length_append, List.length_cons, Nat.mul_succ]; omega
theorem refW_len : ∀ (M : List ValM) (ks : List Int), (refW M ks).length ≤ M.length
  | [], _ => Nat.le_refl _
  | v :: M, [] => Nat.zero_le _
  | v :: M, c :: ks => by
    have ih := refW_len M ks
    show ((if v.k = 2 ∧ 0 < v.b ∧ c = 2 then [refI v.b] else []) ++ refW M ks).length ≤ _
    rw [List.length_append, List.length_cons]
    split <;> simp only [List.length_cons, List.length_nil] <;> omega
end
section
open Go.RowKit
set_option linter.unusedVariables false
set_option linter.unusedSimpArgs false
attribute [local go_sem] over_cell over_frozen
variable {w0 w w' : World} {s : Nat} {p : PrV} {P : PrM} {lv : Sl} {ds : List FrD} {L : List FrM}
/-- One of the frames, in memory. -/
theorem fr_at (h : FrsAt w0 w s p lv ds L) (k : Nat) (hk : k < L.length) : ∃ (pb db : Nat) (xa : Option Addr) (xc : Nat) (ya : Option Addr) (yc : Nat), lv.a = some ⟨pb, 0, none⟩ ∧ k < lv.c ∧ (pb < w.heap.size ∧ db < w.heap.size) ∧ w.cell? ⟨pb, k, none⟩ = some (.pointer (some ⟨db, 0, none⟩)) ∧ (w.cell? ⟨db, 0, none⟩ = some (.int .i64 L[k].f) ∧ w.cell? ⟨db, 1, none⟩ = some (.int .i64 L[k].at_) ∧ w.cell? ⟨db, 2, none⟩ = some (.slice xa L[k].loc.length xc) ∧ w.cell? ⟨db, 3, none⟩ = some (.slice ya L[k].stk.length yc)) ∧ OwnR valE VALT w w0.heap.size (.slice xa L[k].loc.length xc) L[k].loc ∧ OwnR valE VALT w w0.heap.size (.slice ya L[k].stk.length yc) L[k].stk := by
  obtain ⟨ll1, ll2⟩ := frs_len h
  have hkd : k < ds.length := by omega
  have ho := frAll_at h.fr k hkd hk
  obtain ⟨c0, c1, c2, c3, cf⟩ := fr_cells (w0 := w0) ho
  obtain ⟨pb, pcap, epl, _, hpz, hpc, hpm, hpB⟩ := ownR_form h.row (by rw [List.length_map]; omega)
  have epl2 : Value.slice lv.a lv.n lv.c = .slice (some ⟨pb, 0, none⟩) (ds.map FrD.b).length pcap := epl
  injection epl2 with e1 _ e3
  have pk := hpB.2.1 (k * 1) (by rw [row_length]; show k * 1 < _ * 1; rw [List.length_map]; omega)
  have pk2 : w.cell? ⟨pb, k, none⟩ = some (.pointer (some ⟨ds[k].b, 0, none⟩)) := by
    have z := row_at ptrE (ds.map FrD.b) k (by rw [List.length_map]; exact hkd) 0 (by decide)
    rw [← List.getElem?_eq_getElem] at pk
    have e9 : k * ptrE.size + 0 = k * 1 := by show k * 1 + 0 = k * 1; omega
    rw [e9] at z
    rw [z] at pk
    rw [Nat.mul_one] at pk
    rw [pk, List.getElem_map]; rfl
  refine ⟨pb, ds[k].b, ds[k].lv.a, ds[k].lv.c, ds[k].sv.a, ds[k].sv.c, e1, by rw [List.length_map] at hpc; omega, ⟨hpB.1, ho.hd.1⟩, pk2, ⟨c0, c1, c2, c3⟩, ?_, ?_⟩
  · have z := ho.l; unfold Sl.v at z; rw [(own_sl ho.l).1] at z; exact z
  · have z := ho.s; unfold Sl.v at z; rw [(own_sl ho.s).1] at z; exact z
def FRefsEnd (w : World) (Y : List Int) (e : Ending) (w' : World) : Prop := ∃ a c, e = .returned (.slice a Y.length c) ∧ ReadI w' (.slice a Y.length c) Y ∧ Below w.heap.size w w'
theorem refsAll_len {L : List FrM} (hL : L.length ≤ 24) (hm : ∀ m ∈ L, m.loc.length ≤ 100 ∧ m.stk.length ≤ 100) (k : Nat) : (refsAll (L.take k)).length ≤ 4800 := by
  have h := flatMap_len (f := fun m => refV m.loc ++ refV m.stk) (n := 200) (L.take k) (fun m hmm => by
    have q := hm m (List.mem_of_mem_take hmm)
    have q1 := refV_len m.loc
    have q2 := refV_len m.stk
    simp only [List.length_append]; omega)
  have e : (L.take k).length ≤ L.length := by rw [List.length_take]; omega
  show ((L.take k).flatMap fun m => refV m.loc ++ refV m.stk).length ≤ 4800
  omega
set_option maxRecDepth 100000 in
set_option maxHeartbeats 4000000 in
theorem frefsall_any (h : FrsAt w0 w s p lv ds L) (hL : L.length ≤ 24) (hm : ∀ m ∈ L, m.loc.length ≤ 100 ∧ m.stk.length ≤ 100) : Calls Try.prog 30 #[fp s] w (FRefsEnd w (refsAll L)) := by
  have HF := Lib.hid (fun w' (hb : Below w.heap.size w w') => flen_any (frs_below h hb))
  have HH := Lib.hid h; have HM := Lib.hid hm; have HYL := Lib.hid (refsAll_len hL hm)
  have hhw0 := Lib.hid h.be.size
  obtain ⟨la, ln, lc⟩ := lv
  have HS4 : Hid (∀ w', Below w.heap.size w w' → w'.cell? ⟨s, 4, none⟩ = some (.slice la L.length lc)) := Lib.hid (fun w' hb => (frs_cells (frs_below h hb)).2.1)
  have sz := h.hd.1
  unfold fp at *
  clear h hm
  go_enter Try.func30, Try.ntmps30
  go_wp2_with fail
  refine (HF.out _ (Below.refl _ _)).mono ?_
  rintro e w1 ⟨rfl, rfl⟩
  go_wp2_with fail
  go_loopw [3, 7] (fun v i wr => ∃ k : Nat, k ≤ L.length ∧ i = .int .i64 k ∧ (∃ (a' : Option Addr) (n c' : Nat) (Y : List Int), v = .slice a' n c' ∧ n = Y.length ∧ Hid (Y = refsAll (L.take k)) ∧ Hid (OwnR intE 3 wr w.heap.size (.slice a' Y.length c') Y)) ∧ Hid (Below w.heap.size w wr)) (fun _ i _ => L.length - (intOf i).toNat)
  case atStart => exact ⟨0, Nat.zero_le _, rfl, ⟨none, 0, 0, [], rfl, rfl, Lib.hid rfl, Lib.hid (ownR_nil _ _)⟩, Lib.hid (Below.refl _ _)⟩
  case round =>
    obtain ⟨W1, hW1⟩ : ∃ x, x = wr := ⟨_, rfl⟩
    subst hW1
    obtain ⟨k, hk, rfl, ⟨a', n', c', Y, rfl, rfl, HEQ, HOW⟩, HB⟩ := hrel
    have k0 : (0 : Int) ≤ k := by omega
    by_cases hlt : k < L.length
    · have k1 : (k : Int) < L.length := by omega
      have k9 : (k : Int) < 9223372036854775807 := by omega
      obtain ⟨pb, db, xa, xc, ya, yc, e1, e3, ⟨zp, zd⟩, pk, ⟨c0, c1, c2, c3⟩, ol, os⟩ := fr_at HH.out k hlt
      simp only at e1 e3
      subst e1
      have kc : (k : Int) < lc := by omega
      have hml := HM.out _ (List.getElem_mem hlt)
      have HT : Hid (refsAll (L.take (k + 1)) = refsAll (L.take k) ++ (refV L[k].loc ++ refV L[k].stk)) := Lib.hid (flatMap_take _ L k hlt)
      have hYL : Y.length ≤ 4800 := by rw [HEQ.out]; exact HYL.out k
      generalize L[k] = m at *
      obtain ⟨hm1, hm2⟩ := hml
      have HOL := Lib.hid ol; have HOS := Lib.hid os
      have hv1 := refV_len m.loc
      have HYM : Hid ((Y ++ refV m.loc).length ≤ 5000) := Lib.hid (by rw [List.length_append]; omega)
      have HS : Hid (∀ w', Below w.heap.size w w' → (w'.cell? ⟨s, 4, none⟩ = some (.slice (some ⟨pb, 0, none⟩) L.length lc) ∧ w'.cell? ⟨pb, k, none⟩ = some (.pointer (some ⟨db, 0, none⟩))) ∧ (w'.cell? ⟨db, 2, none⟩ = some (.slice xa m.loc.length xc) ∧ w'.cell? ⟨db, 3, none⟩ = some (.slice ya m.stk.length yc))) := Lib.hid (fun w' hb => by
        have hc := (bcell hb).1
        exact ⟨⟨HS4.out _ hb, (hc _ _ zp).trans pk⟩, (hc _ _ zd).trans c2, (hc _ _ zd).trans c3⟩)
      have HM1 := Lib.hid hm1; have HM2 := Lib.hid hm2; have HY1 := Lib.hid hYL
      have hbs := HB.out.size
      clear pk c0 c1 c2 c3 ol os hm1 hm2 hv1 hYL
      obtain ⟨Y1, hY1⟩ : ∃ Y1, Y1 = Y ++ refV m.loc := ⟨_, rfl⟩
      obtain ⟨Y2, hY2⟩ : ∃ Y2, Y2 = Y1 ++ refV m.stk := ⟨_, rfl⟩
      have HE1 := Lib.hid hY1; have HE2 := Lib.hid hY2
      rw [← hY1] at HYM
      have HC1 : Hid (∀ wx, Below W1.heap.size W1 wx → Calls Try.prog 74 #[.slice a' Y.length c', .slice xa m.loc.length xc] wx (RefsEnd w.heap.size wx (.slice a' Y.length c') Y1)) := Lib.hid (fun wx hb => by
        rw [hY1]
        exact frefs_any w.heap.size (.slice a' Y.length c') (.slice xa m.loc.length xc) Y m.loc wx (b_call HB.out hb).size (ownR_below HOW.out hb) (readR_below (ownR_read HOL.out) (b_call HB.out hb)) (fun j hj hu => by have q1 := ownR_lt HOL.out j hj; have q2 := ownR_lt HOW.out j hu; omega) (by have := HY1.out; omega) (by have := HM1.out; omega))
      have HC2 : Hid (∀ wx a6 c6, Below w.heap.size w wx → OwnR intE 3 wx w.heap.size (.slice a6 Y1.length c6) Y1 → Calls Try.prog 74 #[.slice a6 Y1.length c6, .slice ya m.stk.length yc] wx (RefsEnd w.heap.size wx (.slice a6 Y1.length c6) Y2)) := Lib.hid (fun wx a6 c6 hb ho => by
        rw [hY2]
        exact frefs_any w.heap.size (.slice a6 Y1.length c6) (.slice ya m.stk.length yc) Y1 m.stk wx hb.size ho (readR_below (ownR_read HOS.out) hb) (fun j hj hu => by have q1 := ownR_lt HOS.out j hj; have q2 := ownR_lt ho j hu; omega) (by have := HYM.out; omega) (by have := HM2.out; omega))
      clear hY1 hY2
      go_upto_region 5 with fail
      refine wp_region_held_drew (S := fun w' => (w'.cell? ⟨s, 4, none⟩ = some (.slice (some ⟨pb, 0, none⟩) L.length lc) ∧ w'.cell? ⟨pb, k, none⟩ = some (.pointer (some ⟨db, 0, none⟩))) ∧ (w'.cell? ⟨db, 2, none⟩ = some (.slice xa m.loc.length xc) ∧ w'.cell? ⟨db, 3, none⟩ = some (.slice ya m.stk.length yc))) (by kernel_rfl) (HS.out _ (b_drew HB.out)) (fun hHeld => ?_)
      refine atI 0 ?_
      iterate 11 (refine takeN (v := ?_) rfl (by rfl) ?_ hHeld ?_; rotate_left; (focus (intro w hSw; (try dsimp only at hSw); go_simp; try (with_reducible rfl))); (try simp only [Act.put, Nat.reduceAdd, List.getElem_toArray, List.getElem_cons_succ, List.getElem_cons_zero, List.setIfInBounds_toArray, List.set_cons_zero, List.set_cons_succ]))
      refine atIo ?_
      refine atI 12 ?_
      iterate 10 (refine takeN (v := ?_) rfl (by rfl) ?_ hHeld ?_; rotate_left; (focus (intro w hSw; (try dsimp only at hSw); go_simp; try (with_reducible rfl))); (try simp only [Act.put, Nat.reduceAdd, List.getElem_toArray, List.getElem_cons_succ, List.getElem_cons_zero, List.setIfInBounds_toArray, List.set_cons_zero, List.set_cons_succ]))
      refine atIo ?_
      refine wpAnyH_ready (rs := [11]) (by kernel_rfl) (by simp) (AllReadyH.cons rfl (fun K hK => ?_) AllReadyH.nil)
      go_simp
      refine (HC1.out _ (b_drew (Below.refl _ _))).mono ?_
      rintro e w6 ⟨a6, c6, rfl, ho6, hg6, hn6⟩
      have HO6 := Lib.hid ho6
      have HB6 : Hid (Below w.heap.size w w6) := Lib.hid (b_gx (b_drew HB.out) hg6 (fun j hj => (ownR_lt HOW.out j hj).1))
      clear ho6 hg6 hn6
      refine hK.out _ _ (HS.out _ HB6.out) (fun hHeld => ?_)
      clear hK K
      (try simp only [Act.put, List.getElem_toArray, List.getElem_cons_succ, List.getElem_cons_zero, List.setIfInBounds_toArray, List.set_cons_zero, List.set_cons_succ])
      refine wpAnyH_ready (rs := [22]) (by kernel_rfl) (by simp) (AllReadyH.cons rfl (fun K hK => ?_) AllReadyH.nil)
      go_simp
      refine (HC2.out _ _ _ HB6.out HO6.out).mono ?_
      rintro e w7 ⟨a7, c7, rfl, ho7, hg7, hn7⟩
      have HO7 := Lib.hid ho7
      have HB7 : Hid (Below w.heap.size w w7) := Lib.hid (b_gx HB6.out hg7 (fun j hj => (ownR_lt HO6.out j hj).1))
      clear ho7 hg7 hn7
      refine hK.out _ _ (HS.out _ HB7.out) (fun hHeld => ?_)
      clear hK K
      (try simp only [Act.put, List.getElem_toArray, List.getElem_cons_succ, List.getElem_cons_zero, List.setIfInBounds_toArray, List.set_cons_zero, List.set_cons_succ])
      (refine wpAnyH_take (i := 23) (v := ?_) rfl (by kernel_rfl) (by kernel_rfl) (by kernel_rfl) (fun _ _ _ h => h) (Or.inl ⟨by rfl, ?_⟩) hHeld ?_; rotate_left; (focus (intro w hSw; (try dsimp only at hSw); go_simp; try (with_reducible rfl))); (try simp only [Act.put, List.getElem_toArray, List.getElem_cons_succ, List.getElem_cons_zero, List.setIfInBounds_toArray, List.set_cons_zero, List.set_cons_succ]))
      refine wpAnyH_done (by kernel_rfl) ?_ _
      go_wp2_with fail
      go_roundw
      case rel => exact ⟨k + 1, by omega, by first | rfl | go_num, ⟨a7, Y2.length, c7, Y2, rfl, rfl, Lib.hid (by rw [HT.out, HE2.out, HE1.out, HEQ.out, List.append_assoc]), HO7⟩, HB7⟩
      case measure => simp [intOf]; omega
    · have k1 : ¬ ((k : Int) < L.length) := by omega
      have HFI : Hid (Y = refsAll L) := Lib.hid (by rw [HEQ.out, List.take_of_length_le (by omega)])
      go_wp2_with fail
      go_ret
      show FRefsEnd w (refsAll L) (.returned (.slice a' Y.length c')) W1
      rw [← HFI.out]
      exact ⟨a', c', rfl, readR_I (ownR_read HOW.out), HB.out⟩
end
end Go.Proofs.Ytdmidnmciaediaa
