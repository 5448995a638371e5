/- The document's rows of truths: lists of bools in memory; the contracts of its New, Count, Next, All. Conditions: at most 65536 truths. -/
import Derived.Test.YtfbdnjmljdfjjaaDoorBit3
namespace Go.Proofs.YtfbdnjmljdfjjaaDoor
open Go.RowKit
set_option linter.unusedVariables false
set_option linter.unusedSimpArgs false
attribute [local go_sem] over_cell over_frozen
def boolC (b : Bool) : List Value := [.bool b]
def booE : Elt Bool where
  cells := boolC
  size := 1
  pos := by decide
  len := fun _ => rfl
  one := fun r u hu => by simp only [boolC, List.mem_singleton] at hu; subst hu; rfl
theorem boolT : IsRow Tryd.prog 22 4 1 1 (.bool false) := ⟨Tryd.underlying22, by kernel_rfl, by rfl⟩
theorem boolR_pos {w : World} {v : Value} {l : List Bool} (h : ReadR booE w v l) (hn : 0 < l.length) : ∃ b o cap, v = .slice (some ⟨b, o, none⟩) l.length cap ∧ l.length ≤ cap ∧ cap ≤ maxLen ∧ b < w.heap.size ∧ ∀ k, k < l.length → w.cell? ⟨b, o + k, none⟩ = some (.bool (l.getD k false)) := by
  obtain ⟨b, o, cap, rfl, h1, h2, h3, h4⟩ := readR_pos h hn
  refine ⟨b, o, cap, rfl, h1, h2, h3, fun k hk => ?_⟩
  have := h4 k hk 0 (by decide)
  rw [show o + (k * booE.size + 0) = o + k by show o + (k * 1 + 0) = o + k; omega] at this
  rw [this, List.getD_eq_getElem?_getD, List.getElem?_eq_getElem hk]; rfl
theorem bools_at {w : World} {g : Nat} {l : List Bool} (h : Blk w g (booE.row l)) {j : Nat} (hj : j < l.length) : w.cell? ⟨g, j, none⟩ = some (.bool (l.getD j false)) := by
  have hl : j < (booE.row l).length := by rw [row_length]; show j < l.length * 1; omega
  have e := row_at booE l j hj 0 (by decide)
  have e3 : j * booE.size + 0 = j := by show j * 1 + 0 = j; omega
  rw [h.2.1 j hl]
  rw [e3, List.getElem?_eq_getElem hl] at e
  rw [e, List.getD_eq_getElem?_getD, List.getElem?_eq_getElem hj]; rfl
theorem row_bools : ∀ l : List Bool, booE.row l = l.map Value.bool
  | [] => rfl
  | x :: l => by rw [row_cons, row_bools l]; rfl
theorem rcount2_any {w : World} {v : Value} {l : List Bool} (h : ReadR booE w v l) (hl : l.length ≤ 65536) : Calls Tryd.prog 25 #[v] w fun e w' => e = .returned (.int .i64 ((cntF l l.length : Nat) : Int)) ∧ w = w' := by
  rcases Nat.eq_zero_or_pos l.length with hz | hz
  · have e : l = [] := List.eq_nil_of_length_eq_zero hz
    subst e
    obtain ⟨a, cap, rfl, _, _⟩ := readR_len h
    simp only [List.length_nil]
    clear h hz hl
    go_enter Tryd.func25, Tryd.ntmps25
    go_wp2_with fail
    go_loop [3, 8] (fun n i => i = .int .i64 0 ∧ n = .int .i64 0) (fun _ i => 0)
    case atStart => exact ⟨rfl, rfl⟩
    case round =>
      obtain ⟨rfl, rfl⟩ := hrel
      go_wp2_with fail
      go_ret
      exact ⟨rfl, rfl⟩
  · obtain ⟨b, o, cap, rfl, h1, h2, h3, h4⟩ := boolR_pos h hz
    have HC := Lib.hid h4
    have hb : (l.length : Int) ≤ 65536 := by omega
    clear h h4 hz
    go_enter Tryd.func25, Tryd.ntmps25
    go_wp2_with fail
    go_loop [3, 8] (fun n i => ∃ k : Nat, k ≤ l.length ∧ i = .int .i64 k ∧ n = .int .i64 ((cntF l k : Nat) : Int)) (fun _ i => l.length - (intOf i).toNat)
    case atStart => exact ⟨0, Nat.zero_le _, rfl, rfl⟩
    case round =>
      obtain ⟨k, hk, rfl, rfl⟩ := hrel
      by_cases hlt : k < l.length
      · have d0 := HC.out k hlt
        have HS := Lib.hid (cntF_succ l k)
        have cl := cntF_le l k
        have k0 : (0 : Int) ≤ k := by omega
        have k1 : (k : Int) < l.length := by omega
        have c1 : (cntF l k : Int) ≤ 65536 := by omega
        clear cl
        cases hv : l.getD k false with
        | true =>
          rw [hv] at d0 HS
          have HV := Lib.hid hv
          clear hv
          generalize cntF l k = c at *
          go_wp2_with fail
          go_round
          case rel => exact ⟨k + 1, by omega, by go_num, by rw [HS.out, if_pos rfl]; go_num⟩
          case measure => simp only [intOf]; omega
        | false =>
          rw [hv] at d0 HS
          have HV := Lib.hid hv
          clear hv
          generalize cntF l k = c at *
          go_wp2_with fail
          go_round
          case rel => exact ⟨k + 1, by omega, by go_num, by rw [HS.out, if_neg (by decide)]; go_num⟩
          case measure => simp only [intOf]; omega
      · have e : k = l.length := by omega
        have HE := Lib.hid e
        clear e
        go_wp2_with fail
        go_ret
        exact ⟨by rw [← HE.out]; rfl, rfl⟩
/-- The places that are true, of the first so many. -/
def upTo (l : List Bool) (k : Nat) : List Nat := (List.range k).filter (fun j => l.getD j false)
theorem upTo_len (l : List Bool) (k : Nat) : (upTo l k).length ≤ k := Nat.le_trans (List.length_filter_le _ _) (by simp)
theorem upTo_all (l : List Bool) : upTo l l.length = allF l 0 := (allF_zero l).symm
theorem rall2_any {w : World} {v : Value} {l : List Bool} (h : ReadR booE w v l) (hl : l.length ≤ 65536) : Calls Tryd.prog 26 #[v] w (AllE l w) := by
  rcases Nat.eq_zero_or_pos l.length with hz | hz
  · have e : l = [] := List.eq_nil_of_length_eq_zero hz
    subst e
    obtain ⟨a, cap, rfl, _, _⟩ := readR_len h
    simp only [List.length_nil]
    clear h hz hl
    go_enter Tryd.func26, Tryd.ntmps26
    go_wp2_with fail
    go_loop [3, 8] (fun v i => i = .int .i64 0 ∧ v = .slice none 0 0) (fun _ i => 0)
    case atStart => exact ⟨rfl, rfl⟩
    case round =>
      obtain ⟨rfl, rfl⟩ := hrel
      go_wp2_with fail
      go_ret
      exact ⟨_, rfl, ownI_nil _ _, Below.refl _ _⟩
  · obtain ⟨b, o, cap, rfl, h1, h2, h3, h4⟩ := boolR_pos h hz
    have HC := Lib.hid h4
    have hb : (l.length : Int) ≤ 65536 := by omega
    clear h h4 hz
    go_enter Tryd.func26, Tryd.ntmps26
    go_wp2_with fail
    go_loopw [3, 8] (fun v i wr => ∃ k : Nat, k ≤ l.length ∧ i = .int .i64 k ∧ OwnI wr w.heap.size v (nats (upTo l k)) ∧ Below w.heap.size w wr) (fun _ i _ => l.length - (intOf i).toNat)
    case atStart => exact ⟨0, Nat.zero_le _, rfl, ownI_nil _ _, Below.refl _ _⟩
    case round =>
      obtain ⟨k, hk, rfl, hown, hbw⟩ := hrel
      by_cases hlt : k < l.length
      · have d0 := HC.out k hlt
        rw [← (bcell hbw).1 _ _ h3] at d0
        have HS : Hid (upTo l (k + 1) = upTo l k ++ (if l.getD k false then [k] else [])) := allF_to k hlt
        have ul := Lib.hid (upTo_len l k)
        have k0 : (0 : Int) ≤ k := by omega
        have k1 : (k : Int) < l.length := by omega
        have hs := hbw.size
        cases hv : l.getD k false with
        | true =>
          rw [hv, if_pos rfl] at HS
          rw [hv] at d0
          have HV := Lib.hid hv
          clear hv
          go_wp2_with (at_builtin; refine appendI rfl _ _ rfl w.heap.size _ (nats (upTo l k)) rfl (ownI_alloc hown _) _ [(k : Int)] rfl (read_one wr k) ?c1 ?c2 ?_; (case c1 => (have := ul.out; rw [nats_length]; simp only [List.length_cons, List.length_nil]; omega)); (case c2 => (simp only [World.size_alloc]; omega)); intro v3 w3 hown3 hg3)
          have hb3 : Below w.heap.size w w3 := b_own (b_alloc hbw _) (ownI_alloc hown _) hg3
          clear hg3
          go_roundw
          case rel => exact ⟨k + 1, by omega, by go_num, by rw [HS.out, nats_snoc]; exact hown3, hb3⟩
          case measure => simp only [intOf]; omega
        | false =>
          rw [hv, if_neg (by decide), List.append_nil] at HS
          rw [hv] at d0
          have HV := Lib.hid hv
          clear hv
          go_wp2_with fail
          go_roundw
          case rel => exact ⟨k + 1, by omega, by go_num, by rw [HS.out]; exact hown, hbw⟩
          case measure => simp only [intOf]; omega
      · have e : k = l.length := by omega
        have HE := Lib.hid e
        clear e
        go_wp2_with fail
        go_ret
        exact ⟨_, rfl, by rw [← upTo_all, ← HE.out]; exact hown, hbw⟩
def elimO (o : Option Nat) : Int := match o with
  | none => -1
  | some k => (k : Int)
set_option maxRecDepth 100000 in
theorem rnext2_any {w : World} {u : Value} {l : List Bool} (h : ReadR booE w u l) (hl : l.length ≤ 65536) (f : Int) (v : Bool) : Calls Tryd.prog 13 #[u, .int .i64 f, .bool v] w fun e w' => e = .returned (.int .i64 (elimO (nextO l v f.toNat))) ∧ w = w' := by
  rcases Nat.eq_zero_or_pos l.length with hz | hz
  · have e : l = [] := List.eq_nil_of_length_eq_zero hz
    subst e
    obtain ⟨a, cap, rfl, _, _⟩ := readR_len h
    simp only [List.length_nil]
    clear h hz hl
    go_enter Tryd.func13, Tryd.ntmps13
    go_wp2_with fail
    go_loop [11] (fun i => i = .int .i64 0) (fun _ => 0)
    case atStart => rfl
    case round =>
      subst hrel
      go_wp2_with fail
      go_ret
      exact ⟨rfl, rfl⟩
  · obtain ⟨b, o, cap, rfl, h1, h2, h3, h4⟩ := boolR_pos h hz
    have HC := Lib.hid h4
    have hb : (l.length : Int) ≤ 65536 := by omega
    clear h h4 hz
    go_enter Tryd.func13, Tryd.ntmps13
    go_wp2_with fail
    go_loop [11] (fun i => ∃ k : Nat, k ≤ l.length ∧ i = .int .i64 k ∧ Hid (∀ j, f.toNat ≤ j → j < k → l.getD j false ≠ v)) (fun i => l.length - (intOf i).toNat)
    case atStart => exact ⟨0, Nat.zero_le _, rfl, fun j _ h => by omega⟩
    case round =>
      obtain ⟨k, hk, rfl, hall⟩ := hrel
      by_cases hlt : k < l.length
      · have d0 := HC.out k hlt
        have k0 : (0 : Int) ≤ k := by omega
        have k1 : (k : Int) < l.length := by omega
        obtain ⟨x, hx⟩ : ∃ x, x = l.getD k false := ⟨_, rfl⟩
        rw [← hx] at d0
        have HX := Lib.hid hx
        clear hx
        by_cases hf : f ≤ k
        · by_cases hxv : x = v
          · have HXV := Lib.hid hxv
            have t1 : (x == v) = true := by rw [beq_iff_eq]; exact hxv
            clear hxv
            go_wp2_with fail
            go_ret
            have e : nextO l v f.toNat = some k := nextO_some.2 ⟨by omega, hlt, by rw [← HX.out, HXV.out], hall.out⟩
            exact ⟨by rw [e]; rfl, rfl⟩
          · have HXV := Lib.hid hxv
            have t1 : (x == v) = false := by rw [beq_eq_false_iff_ne]; exact hxv
            clear hxv
            go_wp2_with fail
            go_round
            case rel => exact ⟨k + 1, by omega, by go_num, fun j a c => by
              rcases Nat.lt_or_ge j k with q | q
              · exact hall.out j a q
              · have e : j = k := by omega
                rw [e, ← HX.out]; exact HXV.out⟩
            case measure => simp only [intOf]; omega
        · go_wp2_with fail
          go_round
          case rel => exact ⟨k + 1, by omega, by go_num, fun j a c => by
              rcases Nat.lt_or_ge j k with q | q
              · exact hall.out j a q
              · omega⟩
          case measure => simp only [intOf]; omega
      · have e : nextO l v f.toNat = none := nextO_none.2 (fun j a c => hall.out j a (by omega))
        have HE := Lib.hid e
        clear e
        go_wp2_with fail
        go_ret
        exact ⟨by rw [HE.out]; rfl, rfl⟩
/-- A row of truths that the call has made. -/
def NewBoo (w : World) (l : List Bool) (e : Ending) (w' : World) : Prop := ∃ g, e = .returned (.slice (some ⟨g, 0, none⟩) l.length l.length) ∧ Blk w' g (booE.row l) ∧ w.heap.size ≤ g ∧ Below w.heap.size w w'
def mkB (m : Nat) : Array Value := madeCells (Value.bool false).cells (m * booE.size)
set_option maxRecDepth 100000 in
theorem rnew2_any (n : Int) (w : World) : Calls Tryd.prog 12 #[.int .i64 n] w (NewBoo w (List.replicate (bitN n) false)) := by
  have key : ∀ (z : Int) (m : Nat), z = m → m ≤ 65536 → ∀ w : World, (Instr.makeSlice 22 (.int .i64 z) (.int .i64 z)).run Tryd.prog w = .ok (.slice (some ⟨w.heap.size, 0, none⟩) m m) (w.alloc (.cells (mkB m) 4)) := fun z m hz hm w => by subst hz; exact run_makeR (c := booE) boolT _ _ m (by omega) (by omega) w
  have hfin : ∀ m : Nat, m ≤ 65536 → ∀ e, e = Ending.returned (.slice (some ⟨w.heap.size, 0, none⟩) m m) → NewBoo w (List.replicate m false) e (w.alloc (.cells (mkB m) 4)) := by
    intro m hm e he
    exact ⟨w.heap.size, by rw [he, List.length_replicate], blk_make w false rfl _, Nat.le_refl _, b_alloc (Below.refl _ _) _⟩
  rcases (show n < 0 ∨ (0 ≤ n ∧ 65536 < n) ∨ ∃ m : Nat, n = m ∧ m ≤ 65536 by
    rcases (show n < 0 ∨ (0 ≤ n ∧ 65536 < n) ∨ (0 ≤ n ∧ n ≤ 65536) by omega) with q | q | q
    · exact Or.inl q
    · exact Or.inr (Or.inl q)
    · exact Or.inr (Or.inr ⟨n.toNat, by omega, by omega⟩)) with q | ⟨q1, q2⟩ | ⟨m, rfl, hm⟩
  · rw [show bitN n = 0 by unfold bitN; rw [if_pos q]]
    have K := key 0 0 rfl (by omega)
    have F := Lib.hid (hfin 0 (by omega))
    clear key hfin
    go_enter Tryd.func12, Tryd.ntmps12
    go_wp2_with fail
    go_ret
    exact F.out _ rfl
  · rw [show bitN n = 65536 by unfold bitN; rw [if_neg (by omega), if_pos q2]]
    have K := key 65536 65536 rfl (by omega)
    have F := Lib.hid (hfin 65536 (by omega))
    clear key hfin
    generalize List.replicate 65536 false = L0 at *
    go_enter Tryd.func12, Tryd.ntmps12
    go_wp2_with fail
    go_ret
    exact F.out _ rfl
  · rw [show bitN (m : Int) = m by unfold bitN; rw [if_neg (by omega), if_neg (by omega)]; omega]
    have K := key m m rfl hm
    have F := Lib.hid (hfin m hm)
    have hm0 : (0 : Int) ≤ m := by omega
    have hm1 : ¬ (65536 : Int) < m := by omega
    clear key hfin hm
    go_enter Tryd.func12, Tryd.ntmps12
    go_wp2_with fail
    go_ret
    exact F.out _ rfl
end Go.Proofs.YtfbdnjmljdfjjaaDoor
