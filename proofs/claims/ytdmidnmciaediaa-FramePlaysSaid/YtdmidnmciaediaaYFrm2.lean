/- Layer 28: the contracts of OfInt, Zero, of, Clone of values, Len, top, New, Return, Pop, Push. Conditions: those stated. -/
import Derived.Test.YtdmidnmciaediaaYFrm1
import Derived.Test.YtdmidnmciaediaaYCut
import Derived.Deep.QuietTactic
namespace Go.Proofs.Ytdmidnmciaediaa
open Go.RowKit
set_option linter.unusedVariables false
set_option linter.unusedSimpArgs false
attribute [local go_sem] over_cell over_frozen
def fp (b : Nat) : Value := .pointer (some ⟨b, 0, none⟩)
def intV (i : Int) : ValM := ⟨0, i % 18446744073709551616⟩
theorem vint_any (i : Int) (w : World) : Calls Try.prog 20 #[.int .i64 i] w fun e w' => e = .returned (aggV (intV i)) ∧ Below w.heap.size w w' := by
  have hk : IntKind.u64.wrap i = i % 18446744073709551616 := IntKind.wrap_u64 i
  unfold aggV intV
  simp only
  rw [← hk]
  clear hk
  go_enter Try.func20, Try.ntmps20
  go_wp2_with fail
  exact bodyPost_ret (v := .agg #[.int .i64 0, .int .u64 (IntKind.u64.wrap i)]) (by simp [results, Try.results20, go_sem]) rfl ⟨rfl, by (try simp); (repeat' (first | exact Below.refl _ _ | assumption | refine b_alloc ?_ _ | refine b_over ?_ _ | refine b_drew ?_ | refine b_call ?_ (by assumption)))⟩
theorem vzero_any (k : Int) (w : World) : Calls Try.prog 61 #[.int .i64 k] w fun e w' => e = .returned (aggV ⟨k, 0⟩) ∧ Below w.heap.size w w' := by
  unfold aggV
  go_enter Try.func61, Try.ntmps61
  go_wp2_with fail
  exact bodyPost_ret (v := .agg #[.int .i64 k, .int .u64 0]) (by simp [results, Try.results61, go_sem]) rfl ⟨rfl, by (try simp); (repeat' (first | exact Below.refl _ _ | assumption | refine b_alloc ?_ _ | refine b_over ?_ _ | refine b_drew ?_ | refine b_call ?_ (by assumption)))⟩
theorem of1_any (k b q : Int) (w : World) : Calls Try.prog 92 #[.agg #[.int .i64 k, .int .u64 b], .int .i64 q] w fun e w' => e = .returned (.bool (k == q)) ∧ Below w.heap.size w w' := by
  go_enter Try.func92, Try.ntmps92
  go_wp2_with fail
  go_ret
  exact ⟨rfl, by (try simp); (repeat' (first | exact Below.refl _ _ | assumption | refine b_alloc ?_ _ | refine b_over ?_ _ | refine b_drew ?_ | refine b_call ?_ (by assumption)))⟩
theorem valR_pos {w : World} {v : Value} {L : List ValM} (h : ReadR valE w v L) (hn : 0 < L.length) : ∃ b o cap, v = .slice (some ⟨b, o, none⟩) L.length cap ∧ L.length ≤ cap ∧ cap ≤ maxLen ∧ b < w.heap.size ∧ ∀ k, (hk : k < L.length) → w.cell? ⟨b, o + k * 2, none⟩ = some (.int .i64 L[k].k) ∧ w.cell? ⟨b, o + k * 2 + 1, none⟩ = some (.int .u64 L[k].b) := by
  obtain ⟨b, o, cap, rfl, h1, h2, h3, h4⟩ := readR_pos h hn
  exact ⟨b, o, cap, rfl, h1, h2, h3, fun k hk => ⟨h4 k hk 0 (by decide), h4 k hk 1 (by decide)⟩⟩
def kindsV (L : List ValM) : List Int := L.map ValM.k
set_option maxRecDepth 100000 in
set_option maxHeartbeats 1000000 in
theorem eqfn_any {u v : Value} {A : List ValM} {K : List Int} {w : World} (h : ReadR valE w u A) (h' : ReadI w v K) (hA : A.length ≤ 100) (hK : K.length ≤ 100) : Calls Try.prog 91 #[u, v, .func (.func 92) #[] #[]] w fun e w' => e = .returned (.bool (decide (kindsV A = K))) ∧ Below w.heap.size w w' := by
  by_cases hn : A.length = K.length
  · rcases Nat.eq_zero_or_pos A.length with hz | hz
    · have e1 : A = [] := List.eq_nil_of_length_eq_zero hz
      have e2 : K = [] := List.eq_nil_of_length_eq_zero (by omega)
      subst e1 e2
      obtain ⟨a1, c1, rfl, _, _⟩ := readR_len h
      obtain ⟨a2, c2, rfl⟩ := readI_len h'
      simp only [List.length_nil]
      clear h h' hn hz hA hK
      rw [show decide (kindsV [] = []) = true from rfl]
      go_enter Try.func91, Try.ntmps91
      go_wp2_with fail
      go_loop [17] (fun i => i = .int .i64 0) (fun _ => 0)
      case atStart => rfl
      case round =>
        subst hrel
        go_wp2_with fail
        go_ret
        exact ⟨rfl, Below.refl _ _⟩
    · obtain ⟨b1, o1, c1, rfl, _, _, l1, h1⟩ := valR_pos h hz
      obtain ⟨b2, o2, c2, rfl, _, _, l2, h2⟩ := readI_pos h' (by omega)
      have H1 := Lib.hid h1
      have H2 := Lib.hid h2
      have HN := Lib.hid hn
      have t0 : ((A.length : Int) != (K.length : Int)) = false := by rw [hn]; simp
      have hn1 : A.length ≤ K.length := by omega
      have ha2 : (A.length : Int) ≤ 100 := by omega
      clear h h' h1 h2 hn hz
      go_enter Try.func91, Try.ntmps91
      go_wp2_with fail
      go_loopw [17] (fun i wr => ∃ k : Nat, k ≤ A.length ∧ i = .int .i64 k ∧ Hid (∀ j, j < k → (kindsV A).getD j 0 = K.getD j 0) ∧ Below w.heap.size w wr) (fun i _ => A.length - (intOf i).toNat)
      case atStart => exact ⟨0, Nat.zero_le _, rfl, fun j hj => by omega, Below.refl _ _⟩
      case round =>
        obtain ⟨k, hk, rfl, hall, hbw⟩ := hrel
        by_cases hlt : k < A.length
        · obtain ⟨d0, d1⟩ := H1.out k hlt
          have d2 := H2.out k (by omega)
          rw [← (bcell hbw).1 _ _ l1] at d0 d1
          rw [← (bcell hbw).1 _ _ l2] at d2
          have k0 : (0 : Int) ≤ k := by omega
          have k1 : (k : Int) < A.length := by omega
          have k2 : (k : Int) < K.length := by omega
          have HX : Hid ((kindsV A).getD k 0 = A[k].k) := by show _ = _; unfold kindsV; rw [List.getD_eq_getElem?_getD, List.getElem?_map, List.getElem?_eq_getElem hlt]; rfl
          generalize A[k] = x at *
          obtain ⟨xk, xb⟩ := x
          simp only at d0 d1 HX
          obtain ⟨y, hy⟩ : ∃ y, y = K.getD k 0 := ⟨_, rfl⟩
          rw [← hy] at d2
          have HY := Lib.hid hy
          have hl1 := Nat.lt_of_lt_of_le l1 hbw.size
          have hl2 := Nat.lt_of_lt_of_le l2 hbw.size
          clear hy
          by_cases hxy : xk = y
          · have t : (xk == y) = true := by rw [beq_iff_eq]; exact hxy
            have E := Lib.hid hxy
            clear hxy
            go_wp2_with fail
            refine (of1_any _ _ _ _).mono ?_
            rintro e w2 ⟨rfl, hb2⟩
            have hB2 := b_call (b_alloc hbw _) hb2
            rw [t]
            go_wp2_with fail
            go_roundw
            case rel => exact ⟨k + 1, by omega, by go_num, fun j hj => by
              rcases Nat.lt_or_ge j k with q | q
              · exact hall.out j q
              · have e : j = k := by omega
                rw [e, HX.out, ← HY.out]; exact E.out, hB2⟩
            case measure => simp only [intOf]; omega
          · have t : (xk == y) = false := by rw [beq_eq_false_iff_ne]; exact hxy
            have E := Lib.hid hxy
            have ED : Hid (decide (kindsV A = K) = false) := by
              show _ = _
              rw [decide_eq_false_iff_not]
              intro e
              apply hxy
              rw [← HX.out, HY.out, e]
            clear hxy
            go_wp2_with fail
            refine (of1_any _ _ _ _).mono ?_
            rintro e w2 ⟨rfl, hb2⟩
            have hB2 := b_call (b_alloc hbw _) hb2
            rw [t]
            go_wp2_with fail
            go_ret
            exact ⟨by rw [ED.out]; rfl, hB2⟩
        · have ED : Hid (decide (kindsV A = K) = true) := by
            show _ = _
            rw [decide_eq_true_iff]
            have hl : (kindsV A).length = K.length := by unfold kindsV; rw [List.length_map]; exact HN.out
            apply List.ext_getElem hl
            intro i h1 h2
            have := hall.out i (by have := HN.out; omega)
            rwa [List.getD_eq_getElem?_getD, List.getD_eq_getElem?_getD, List.getElem?_eq_getElem h1, List.getElem?_eq_getElem h2] at this
          go_wp2_with fail
          go_ret
          exact ⟨by rw [ED.out]; rfl, hbw⟩
  · have t0 : ((A.length : Int) != (K.length : Int)) = true := by rw [bne_iff_ne]; omega
    have e : decide (kindsV A = K) = false := by
      rw [decide_eq_false_iff_not]
      intro e
      apply hn
      rw [← e]; unfold kindsV; rw [List.length_map]
    rw [e]
    obtain ⟨a1, c1, rfl, _, _⟩ := readR_len h
    obtain ⟨a2, c2, rfl⟩ := readI_len h'
    clear h h' hn e
    go_enter Try.func91, Try.ntmps91
    go_wp2_with fail
    go_ret
    exact ⟨rfl, Below.refl _ _⟩
theorem of_any {u v : Value} {A : List ValM} {K : List Int} {w : World} (h : ReadR valE w u A) (h' : ReadI w v K) (hA : A.length ≤ 100) (hK : K.length ≤ 100) : Calls Try.prog 59 #[u, v] w fun e w' => e = .returned (.bool (decide (kindsV A = K))) ∧ Below w.heap.size w w' := by
  have HE := Lib.hid (eqfn_any h h' hA hK)
  clear h h'
  go_enter Try.func59, Try.ntmps59
  go_wp2_with fail
  refine HE.out.mono ?_
  rintro e w1 ⟨rfl, hb1⟩
  go_wp2_with fail
  go_ret
  exact ⟨rfl, hb1⟩
/-- A row that the call has made: a copy. -/
def NewVal (w : World) (L : List ValM) (e : Ending) (w' : World) : Prop := ∃ s : Sl, e = .returned s.v ∧ OwnR valE VALT w' w.heap.size s.v L ∧ Below w.heap.size w w'
theorem vclone_any {w : World} {s : Sl} {L : List ValM} (h : ReadR valE w s.v L) (hl : L.length ≤ 100) : Calls Try.prog 60 #[.slice s.a s.n s.c] w (NewVal w L) := by
  have HL := Lib.hid hl
  obtain ⟨a, n, c⟩ := s
  have h' : ReadR valE w (.slice a n c) L := h
  obtain ⟨a', c', e, h1, h2, h3, h4⟩ := h'
  have hr : ReadR valE w (.slice a' L.length c') L := ⟨a', c', rfl, h1, h2, h3, h4⟩
  injection e with e1 e2 e3
  subst e1 e2 e3
  simp only
  clear h h4
  cases a with
  | none =>
    obtain rfl := h3 rfl
    have e : L = [] := List.eq_nil_of_length_eq_zero (Nat.le_zero.1 h1)
    subst e
    simp only [List.length_nil]
    have t0 := fun (w : World) => Lib.run_eql_slice_nil (P := Try.prog) w 61 VALT none 0 0 0 0 Try.underlying61
    simp only [Option.isNone_none] at t0
    clear hr h1 h2 h3
    go_enter Try.func60, Try.ntmps60
    go_wp2_with fail
    go_ret
    exact ⟨⟨none, 0, 0⟩, rfl, ownR_nil _ _, Below.refl _ _⟩
  | some ad =>
    have t0 := fun (w : World) => Lib.run_eql_slice_nil (P := Try.prog) w 61 VALT (some ad) L.length c 0 0 Try.underlying61
    simp only [Option.isNone_some] at t0
    clear h3 h1 h2
    rcases Nat.eq_zero_or_pos L.length with hz | hz
    · have e : L = [] := List.eq_nil_of_length_eq_zero hz
      subst e
      simp only [List.length_nil] at t0
      simp only [List.length_nil]
      clear hr hz hl
      go_enter Try.func60, Try.ntmps60
      go_wp2_with (at_builtin; refine appendR0 (c := valE) valT rfl _ _ rfl w.heap.size ad c rfl rfl ?_)
      go_ret
      exact ⟨⟨some ⟨w.heap.size, 0, none⟩, 0, 0⟩, rfl, own_emptyR (Nat.le_refl _), b_alloc (Below.refl _ _) _⟩
    · go_enter Try.func60, Try.ntmps60
      go_wp2_with (at_builtin; refine appendR (c := valE) valT rfl _ _ rfl w.heap.size _ [] rfl (own_emptyR (Nat.le_refl _)) _ L rfl (readR_below hr (b_alloc (Below.refl _ _) _)) ?c1 ?c2 ?c3 ?_; (case c1 => (have := HL.out; simp only [List.length_nil]; omega)); (case c2 => (unfold maxLen; have := HL.out; simp only [List.length_nil]; omega)); (case c3 => (simp)); intro v1 w1 hown1 hg1)
      rw [List.nil_append] at hown1
      obtain ⟨g', cap1, rfl, f1, f2, f3, f4, f5⟩ := ownR_form hown1 hz
      go_ret
      exact ⟨⟨some ⟨g', 0, none⟩, L.length, cap1⟩, rfl, hown1, b_ownR (b_alloc (Below.refl _ _) _) (own_emptyR (c := valE) (E := VALT) (Nat.le_refl _)) hg1⟩
theorem flen_any {w0 w : World} {s : Nat} {p : PrV} {lv : Sl} {ds : List FrD} {L : List FrM} (h : FrsAt w0 w s p lv ds L) : Calls Try.prog 21 #[fp s] w fun e w' => e = .returned (.int .i64 L.length) ∧ w = w' := by
  obtain ⟨l1, _⟩ := frs_len h
  have hc := h.hd.2.1 4 (by simp)
  have hc4 : w.cell? ⟨s, 4, none⟩ = some (.slice lv.a L.length lv.c) := by rw [← l1]; exact hc
  unfold fp
  clear h hc l1
  go_enter Try.func21, Try.ntmps21
  go_wp2_with fail
  go_ret
  exact ⟨rfl, rfl⟩
theorem ftop_none {w0 w : World} {s : Nat} {p : PrV} {lv : Sl} {ds : List FrD} (h : FrsAt w0 w s p lv ds []) : Calls Try.prog 62 #[fp s] w fun e w' => e = .returned (.tuple #[.pointer none, .int .i64 6]) ∧ w = w' := by
  have HL := Lib.hid (flen_any h)
  unfold fp at *
  clear h
  go_enter Try.func62, Try.ntmps62
  go_wp2_with fail
  refine HL.out.mono ?_
  rintro e w1 ⟨rfl, rfl⟩
  go_wp2_with fail
  go_ret2
  exact ⟨rfl, rfl⟩
theorem ftop_any {w0 w : World} {s : Nat} {p : PrV} {lv : Sl} {ds : List FrD} {L : List FrM} {d : FrD} {m : FrM} (h : FrsAt w0 w s p lv (ds ++ [d]) (L ++ [m])) : Calls Try.prog 62 #[fp s] w fun e w' => e = .returned (.tuple #[fp d.b, .int .i64 0]) ∧ w = w' := by
  have HL := Lib.hid (flen_any h)
  obtain ⟨l1, l2⟩ := frs_len h
  have hc := h.hd.2.1 4 (by simp)
  have hrow := h.row
  rw [List.map_append, List.map_cons, List.map_nil] at hrow
  have e3 : lv.v = .slice lv.a (L.length + 1) lv.c := by unfold Sl.v; rw [l1]; simp
  rw [e3] at hrow
  obtain ⟨g, cap, e4, _, h5, h6, h7, h8⟩ := ownR_form hrow (by simp)
  have ea : lv.a = some ⟨g, 0, none⟩ := by injection e4
  have ec : lv.c = cap := by injection e4
  have hn : (ds.map FrD.b ++ [d.b]).length = L.length + 1 := by injection e4 with e _ ; simp at l2; simp; omega
  have hL : ds.length = L.length := by simpa using hn
  have hcell : w.cell? ⟨g, L.length, none⟩ = some (.pointer (some ⟨d.b, 0, none⟩)) := by
    have hr := readR_blk (c := ptrE) h8 h6 h7
    obtain ⟨b', o, c', e5, _, _, _, h9⟩ := readR_pos hr (by simp)
    cases e5
    have := h9 L.length (by rw [hn]; exact Nat.lt_succ_self _) 0 (by decide)
    rw [show 0 + (L.length * ptrE.size + 0) = L.length by show 0 + (L.length * 1 + 0) = L.length; omega] at this
    rw [this, List.getElem_append_right (by simp; omega)]
    simp [ptrE]
  have hc4 : w.cell? ⟨s, 4, none⟩ = some (.slice (some ⟨g, 0, none⟩) (L.length + 1) cap) := by
    rw [← ea, ← ec, show L.length + 1 = lv.n by rw [l1]; simp]; exact hc
  have hlen : (L ++ [m]).length = L.length + 1 := by simp
  rw [hlen] at HL
  have hcap : L.length + 1 ≤ cap := by rw [← hn]; exact h6
  have hcap2 := cap_le h7
  generalize L.length = N at *
  unfold fp at *
  have hne : ((((N + 1 : Nat) : Int)) == 0) = false := by rw [beq_eq_false_iff_ne]; omega
  clear h hc hrow e3 e4 ea ec hn h8 hlen l1 l2 hL h6 h7
  go_enter Try.func62, Try.ntmps62
  go_wp2_with fail
  refine HL.out.mono ?_
  rintro e w1 ⟨rfl, rfl⟩
  go_wp2_with fail
  go_ret2
  exact ⟨rfl, rfl⟩
/-- A thread's frames that the call has made: none. -/
def NewFrs (w0 w : World) (p : PrV) (e : Ending) (w' : World) : Prop := ∃ s, e = .returned (fp s) ∧ FrsAt w0 w' s p ⟨none, 0, 0⟩ [] [] ∧ w.heap.size ≤ s ∧ Below w.heap.size w w'
theorem fnew_any {w0 w : World} (p : PrV) (hb : Below w0.heap.size w0 w) : Calls Try.prog 16 #[aggP p] w (NewFrs w0 w p) := by
  have HB := Lib.hid hb
  obtain ⟨u, ⟨ga, gn, gc⟩, m, ⟨fa, fn, fc⟩⟩ := p
  have hsz : Hid (w0.heap.size ≤ w.heap.size) := hb.size
  clear hb
  unfold aggP Sl.v
  simp only
  go_enter Try.func16, Try.ntmps16
  go_wp2_with fail
  refine post_named ?_
  intro w1 hw1
  have B1 : Blk w1 (w.heap.size + 1) [.bool u, .slice ga gn gc, .int .i64 m, .slice fa fn fc, .slice none 0 0] := by
    have q := blk_new (w.alloc (.cells #[.bool u, .slice ga gn gc, .int .i64 m, .slice fa fn fc] 31)) #[.bool u, .slice ga gn gc, .int .i64 m, .slice fa fn fc, .slice none 0 0] FRST
    rw [World.size_alloc] at q
    rw [hw1]; exact q
  have T1 : tyB w1 (w.heap.size + 1) = some FRST := by rw [hw1]; exact tyB_new2 (by simp)
  have hb1 : Below w.heap.size w w1 := by rw [hw1]; exact b_alloc (b_alloc (Below.refl _ _) _) _
  clear hw1
  go_ret
  exact ⟨w.heap.size + 1, rfl, ⟨b_call HB.out hb1, B1, T1, by have := hsz.out; omega, ownR_nil _ _, trivial, List.Pairwise.nil⟩, by omega, hb1⟩
theorem fret_none {w0 w : World} {s : Nat} {p : PrV} {lv : Sl} {ds : List FrD} (h : FrsAt w0 w s p lv ds []) : Calls Try.prog 23 #[fp s] w fun e w' => e = .returned (.int .i64 6) ∧ w = w' := by
  have HL := Lib.hid (ftop_none h)
  unfold fp at *
  clear h
  go_enter Try.func23, Try.ntmps23
  go_wp2_with fail
  refine HL.out.mono ?_
  rintro e w1 ⟨rfl, rfl⟩
  go_wp2_with fail
  go_ret
  exact ⟨rfl, rfl⟩
theorem fret_any {w0 w : World} {s : Nat} {p : PrV} {lv : Sl} {ds : List FrD} {L : List FrM} {d : FrD} {m : FrM} (h : FrsAt w0 w s p lv (ds ++ [d]) (L ++ [m])) : Calls Try.prog 23 #[fp s] w fun e w' => e = .returned (.int .i64 0) ∧ FrsAt w0 w' s p ⟨lv.a, L.length, lv.c⟩ ds L ∧ w.grownBy w' (some s) := by
  have HT := Lib.hid (ftop_any h)
  have H := Lib.hid h
  obtain ⟨l1, l2⟩ := frs_len h
  obtain ⟨h0, h1, h2, h3, hc⟩ : True ∧ True ∧ True ∧ True ∧ w.cell? ⟨s, 4, none⟩ = some (.slice lv.a (L.length + 1) lv.c) := ⟨trivial, trivial, trivial, trivial, by
    have hc := h.hd.2.1 4 (by simp)
    rw [show L.length + 1 = lv.n by rw [l1]; simp]; exact hc⟩
  have hf := h.hd.2.2
  have hcap : L.length + 1 ≤ lv.c := by
    obtain ⟨a, cap, e, e2, e3⟩ := readR_len (ownR_read h.row)
    have e4 : Value.slice lv.a lv.n lv.c = .slice a ((ds ++ [d]).map FrD.b).length cap := e
    injection e4 with _ e5 e6
    rw [e6]; rw [← e5, l1] at e2; simpa using e2
  have hcap2 : lv.c ≤ 9223372036854775807 := by
    obtain ⟨a, cap, e, e2, e3⟩ := readR_len (ownR_read h.row)
    have e4 : Value.slice lv.a lv.n lv.c = .slice a ((ds ++ [d]).map FrD.b).length cap := e
    injection e4 with _ e5 e6
    rw [e6]; exact cap_le e3
  have DONE : Hid (FrsAt w0 (w.setCell ⟨s, 4, none⟩ (.slice lv.a L.length lv.c)).drew s p ⟨lv.a, L.length, lv.c⟩ ds L ∧ w.grownBy (w.setCell ⟨s, 4, none⟩ (.slice lv.a L.length lv.c)).drew (some s)) := by
    have q := frs_less h
    have g1 : w.grownBy (w.setCell ⟨s, 4, none⟩ (.slice lv.a L.length lv.c)).drew (some s) := gb_drew (gb_set (gb_refl _ _) _ _ _)
    exact ⟨⟨b_drew q.be, q.hd, q.ty, q.lo, q.row, frAll_gx (X := fun _ => False) (gx_drew (gx_refl _ _)) q.fr (fun _ _ => ⟨fun e => e, fun _ _ e => e⟩), q.ap⟩, g1⟩
  have ne : ((((L.length + 1 : Nat) : Int)) == 0) = false := by rw [beq_eq_false_iff_ne]; omega
  obtain ⟨la, ln, lc⟩ := lv
  simp only at *
  have hi : ((L.length : Int)) + 1 ≤ lc := by omega
  clear h h0 h1 h2 h3 l1 l2
  generalize L.length = N at *
  unfold fp at *
  go_enter Try.func23, Try.ntmps23
  go_wp2_with fail
  refine HT.out.mono ?_
  rintro e w1 ⟨rfl, rfl⟩
  go_wp2_with fail
  go_region
  all_goals
    go_wp2_with fail
    go_ret
    exact ⟨rfl, DONE.out⟩
end Go.Proofs.Ytdmidnmciaediaa
