/- Layer 3's law: what the function that is done does, act by act. Conditions: the arena stands; at most twelve acts, of kinds 0 to 2. -/
import Derived.Test.YtgbbnmjfkhconaaAreD
namespace Go.Proofs.Ytgbbnmjfkhconaa
open Go.RowKit
set_option linter.unusedVariables false
set_option linter.unusedSimpArgs false
attribute [local go_sem] over_cell over_frozen
def ACTT : TypeId := 45
def actR : Elt ActM where
  cells := fun t => [.int .i64 t.k, .int .i64 t.a, .int .u64 t.x]
  size := 3
  pos := by decide
  len := fun _ => rfl
  one := fun r u hu => by
    simp only [List.mem_cons, List.not_mem_nil, or_false] at hu
    rcases hu with rfl | rfl | rfl <;> rfl
def GoodA (t : ActM) : Prop := 0 ≤ t.x ∧ t.x < 18446744073709551616
def KindA (t : ActM) : Prop := t.k = 0 ∨ t.k = 1 ∨ t.k = 2
theorem rowAct : IsRow Try.prog 32 ACTT 3 24 (.agg #[.int .i64 0, .int .i64 0, .int .u64 0]) := ⟨Try.underlying32, by kernel_rfl, by rfl⟩
theorem act_cells {w : World} {b o : Nat} {A : List ActM} (h4 : ∀ k, (h : k < A.length) → ∀ j, j < actR.size → w.cell? ⟨b, o + (k * actR.size + j), none⟩ = (actR.cells A[k])[j]?) (k : Nat) (hk : k < A.length) :
    w.cell? ⟨b, o + k * 3, none⟩ = some (.int .i64 A[k].k) ∧ w.cell? ⟨b, o + k * 3 + 1, none⟩ = some (.int .i64 A[k].a) ∧ w.cell? ⟨b, o + k * 3 + 2, none⟩ = some (.int .u64 A[k].x) := by
  have h4' : ∀ (j : Nat), j < 3 → w.cell? ⟨b, o + k * 3 + j, none⟩ = (actR.cells A[k])[j]? := fun j hj => by
    have := h4 k hk j hj
    rw [Nat.add_assoc]; exact this
  exact ⟨h4' 0 (by omega), h4' 1 (by omega), h4' 2 (by omega)⟩
/-- The blocks, how they lie. -/
structure ActC (b g vb tb B : Nat) (w1 : World) : Prop where
  cb : b < B
  cg : g < B
  ct : tb < B
  cv : vb = B + 2
  ctb : tb ≠ b
  ctg : tb ≠ g
  cw : w1.heap.size = B + 5
/-- Between two acts. -/
structure ActSt (L : List Int) (b g cap vb tb B : Nat) (w1 wr : World) (n : Int) (ov wv : Value) (O W : List Int) (tv : Value) (T M : List Int) : Prop where
  c : ActC b g vb tb B w1
  v : ViewAt wr vb (tp b) n ov wv (B + 5) O W
  a : AreAt wr b g cap M
  lg : LogAt L M O W
  t : Blk wr tb [tv]
  tt : OwnR u64E U64T wr (B + 5) tv T
  ne : ∀ j, tv.ownBlock = some j → ov.ownBlock ≠ some j
  gx : GrowX w1 wr (fun j => j = vb ∨ j = g ∨ j = tb)
section
variable {L : List Int} {b g cap vb tb B : Nat} {w1 wr : World} {n : Int} {ov wv : Value} {O W : List Int} {tv : Value} {T M : List Int}
theorem as_below (S : ActSt L b g cap vb tb B w1 wr n ov wv O W tv T M) {w' : World} (hb : Below wr.heap.size wr w') : ActSt L b g cap vb tb B w1 w' n ov wv O W tv T M :=
  ⟨S.c, view_gx S.v (gx_below hb (fun _ => False)) (fun h => h) (fun _ _ h => h) (fun _ _ h => h), are_below S.a hb, S.lg, blk_below S.t hb, ownR_below S.tt hb, S.ne, gx_call S.gx hb⟩
theorem as_count (S : ActSt L b g cap vb tb B w1 wr n ov wv O W tv T M) (m : Int) : ActSt L b g cap vb tb B w1 (wr.setCell ⟨vb, 1, none⟩ (.int .i64 m)) m ov wv O W tv T M := by
  obtain ⟨c1, c2, c3, c4, c5, c6, c7⟩ := S.c
  obtain ⟨V, G⟩ := view_count (m := m) S.v
  have GX := gx_gb (X := fun j => j = vb) G (fun k e => by injection e with e; exact e.symm)
  exact ⟨S.c, V, are_gx S.a GX (by omega) (by omega), S.lg, blk_gx S.t GX (by omega), ownR_gx S.tt GX (fun k hk e => by have := (ownR_lt S.tt k hk).1; omega), S.ne, gx_trans S.gx GX (fun _ _ e => e) (fun _ _ e => Or.inl e)⟩
theorem as_cells (S : ActSt L b g cap vb tb B w1 wr n ov wv O W tv T M) {w' : World} (gr : wr.grownBy w' tv.ownBlock) : GrowX wr w' (fun j => tv.ownBlock = some j) ∧ Blk w' tb [tv] := by
  have GX := gx_gb (X := fun j => tv.ownBlock = some j) gr (fun k e => e)
  exact ⟨GX, blk_gx S.t GX (fun e => by have := (ownR_lt S.tt tb e).1; have := S.c.ct; omega)⟩
theorem as_told (S : ActSt L b g cap vb tb B w1 wr n ov wv O W tv T M) {w' : World} {k cp m : Nat} {T' : List Int} (own : OwnR u64E U64T w' (B + 5) (.slice (some ⟨k, 0, none⟩) m cp) T') (gr : wr.grownBy w' tv.ownBlock) (hor : tv.ownBlock = some k ∨ k = wr.heap.size) :
    ActSt L b g cap vb tb B w1 (w'.setCell ⟨tb, 0, none⟩ (.slice (some ⟨k, 0, none⟩) m cp)) n ov wv O W (.slice (some ⟨k, 0, none⟩) m cp) T' M := by
  obtain ⟨c1, c2, c3, c4, c5, c6, c7⟩ := S.c
  obtain ⟨GX, Tb⟩ := as_cells S gr
  have hlo : ∀ j, tv.ownBlock = some j → B + 5 ≤ j := fun j hj => (ownR_lt S.tt j hj).1
  have V1 := view_gx S.v GX (fun e => by have := hlo _ e; omega) (fun j hj e => S.ne j e hj) (fun j hj e => ownR_ne2 S.tt S.v.wh u64_ne_i64 j j e hj rfl)
  have A1 := are_gx S.a GX (fun e => by have := hlo _ e; omega) (fun e => by have := hlo _ e; omega)
  have G2 : w'.grownBy (w'.setCell ⟨tb, 0, none⟩ (.slice (some ⟨k, 0, none⟩) m cp)) (some tb) := gb_set (gb_refl _ _) _ _ _
  have GX2 := gx_gb (X := fun j => j = tb) G2 (fun k e => by injection e with e; exact e.symm)
  refine ⟨S.c, view_gx V1 GX2 (by omega) (fun j hj e => by have := (ownR_lt V1.o j hj).1; omega) (fun j hj e => by have := (ownR_lt V1.wh j hj).1; omega), are_gx A1 GX2 (fun e => c5 e.symm) (fun e => c6 e.symm), S.lg, blk_set Tb 0 _, ownR_gx own GX2 (fun j hj e => by have := (ownR_lt own j hj).1; omega), fun j hj e => ?_, ?_⟩
  · have e1 : k = j := by have e1 : some k = some j := hj; injection e1
    subst e1
    rcases hor with q | q
    · exact S.ne _ q e
    · have := (ownR_lt S.v.o _ e).2; omega
  · refine gx_trans (Y := fun j => j = tb) (gx_trans (Z := fun j => j = vb ∨ j = g ∨ j = tb) S.gx GX (fun _ _ e => e) (fun j hj e => ?_)) GX2 (fun _ _ e => e) (fun _ _ e => Or.inr (Or.inr e))
    exfalso
    have h1 := ownR_lt S.tt j e
    omega
theorem as_set (S : ActSt L b g cap vb tb B w1 wr n ov wv O W tv T M) {w' : World} {ov' wv' : Value} {O' W' M' : List Int} {m : Int} (V : ViewAt w' vb (tp b) m ov' wv' (B + 5) O' W') (A : AreAt w' b g cap M') (G : GrowX wr w' (fun j => j = vb ∨ j = g ∨ ov.ownBlock = some j ∨ wv.ownBlock = some j)) (hno : ∀ j, ov'.ownBlock = some j → ov.ownBlock = some j ∨ wr.heap.size ≤ j) (hl : LogAt L M' O' W') :
    ActSt L b g cap vb tb B w1 w' m ov' wv' O' W' tv T M' := by
  obtain ⟨c1, c2, c3, c4, c5, c6, c7⟩ := S.c
  have hX : ∀ j, j ≠ vb → j ≠ g → (∀ k, ov.ownBlock = some k → k ≠ j) → (∀ k, wv.ownBlock = some k → k ≠ j) → ¬ (j = vb ∨ j = g ∨ ov.ownBlock = some j ∨ wv.ownBlock = some j) := fun j h1 h2 h3 h4 e => by
    rcases e with e | e | e | e
    · exact h1 e
    · exact h2 e
    · exact h3 j e rfl
    · exact h4 j e rfl
  have ho := fun k hk => (ownR_lt S.v.o k hk).1
  have hw := fun k hk => (ownR_lt S.v.wh k hk).1
  refine ⟨S.c, V, A, hl, blk_gx S.t G (hX _ (by omega) (by omega) (fun k hk e => by have := ho k hk; omega) (fun k hk e => by have := hw k hk; omega)), ownR_gx S.tt G (fun j hj => hX j (by have := (ownR_lt S.tt j hj).1; omega) (by have := (ownR_lt S.tt j hj).1; omega) (fun k hk e => S.ne j hj (by rw [← e]; exact hk)) (fun k hk e => ownR_ne2 S.tt S.v.wh u64_ne_i64 j k hj hk e.symm)), fun j hj e => ?_, gx_trans S.gx G (fun _ _ e => e) (fun j hj e => ?_)⟩
  · rcases hno j e with q | q
    · exact S.ne j hj q
    · have := (ownR_lt S.tt j hj).2; omega
  · rcases e with e | e | e | e
    · exact Or.inl e
    · exact Or.inr (Or.inl e)
    · have := ho j e; omega
    · have := hw j e; omega
end
theorem actE_get {L : List Int} {t : ActM} (h : t.k = 0) : actE L t = wordE L.length t.a := by unfold actE; rw [if_neg (by omega)]
theorem actE_set {L : List Int} {t : ActM} (h : t.k = 1) : actE L t = wordE L.length t.a := by unfold actE; rw [if_neg (by omega)]
theorem actE_need {L : List Int} {t : ActM} (h : t.k = 2) : actE L t = if t.x % 2 = 1 then 0 else 8 := by unfold actE; rw [if_pos h]
theorem done_end {L : List Int} {A : List ActM} (h : ∀ j, j < A.length → ∀ t, A[j]? = some t → actE (stL L A j) t = 0) : DoneAt L A A.length 0 := ⟨Nat.le_refl _, h, Or.inl ⟨rfl, rfl⟩⟩
theorem done_bad {L : List Int} {A : List ActM} {n : Nat} {e : Int} (hn : n < A.length) (h : ∀ j, j < n → ∀ t, A[j]? = some t → actE (stL L A j) t = 0) (he : actE (stL L A n) A[n] = e) (h0 : e ≠ 0) : DoneAt L A n e := ⟨by omega, h, Or.inr ⟨A[n], List.getElem?_eq_getElem hn, he, h0⟩⟩
theorem ok_step {L : List Int} {A : List ActM} {n : Nat} (hn : n < A.length) (h : ∀ j, j < n → ∀ t, A[j]? = some t → actE (stL L A j) t = 0) (he : actE (stL L A n) A[n] = 0) : ∀ j, j < n + 1 → ∀ t, A[j]? = some t → actE (stL L A j) t = 0 := fun j hj t ht => by
  rcases Nat.lt_or_ge j n with q | q
  · exact h j q t ht
  · have : j = n := by omega
    subst this
    rw [List.getElem?_eq_getElem hn] at ht
    cases ht; exact he
/-- What stands at the head of a round. -/
def ActR (L : List Int) (A : List ActM) (b g cap vb tb B : Nat) (w1 wr : World) (k : Nat) : Prop := k ≤ A.length ∧ (∀ j, j < k → ∀ t, A[j]? = some t → actE (stL L A j) t = 0) ∧ ∃ ov wv O W tv, ActSt L b g cap vb tb B w1 wr k ov wv O W tv (toldL L A k) (stL L A k) ∧ O.length ≤ k
def DoZ (L : List Int) (A : List ActM) (tb B : Nat) (n : Nat) (x : Int) (M : List Int) (w' : World) : Prop := DoneAt L A n x ∧ (x = 0 → M = stL L A A.length) ∧ ∃ tv, Blk w' tb [tv] ∧ OwnR u64E U64T w' (B + 5) tv (toldL L A n)
theorem view_mono {w : World} {vb B B' : Nat} {p : Value} {n : Int} {ov wv : Value} {O W : List Int} (V : ViewAt w vb p n ov wv B O W) (h : B' ≤ B) : ViewAt w vb p n ov wv B' O W := ⟨V.bk, V.ty, ownR_mono V.o h, ownR_mono V.wh h⟩
theorem actR_bad {L : List Int} {A : List ActM} {b g cap vb tb B : Nat} {w1 wr : World} {k : Nat} {ov wv : Value} {O W : List Int} {tv : Value} {x : Int} {e : Ending} (h1 : k < A.length) (hok : ∀ j, j < k → ∀ t, A[j]? = some t → actE (stL L A j) t = 0) (S : ActSt L b g cap vb tb B w1 wr k ov wv O W tv (toldL L A k) (stL L A k)) (hO : O.length ≤ k) (hA : A.length ≤ 12) (he : actE (stL L A k) A[k] = x) (hx : x ≠ 0) (ht : Trapped x e) : FDone L b g cap (fun j => j = tb) B w1 (DoZ L A tb B) e wr := by
  obtain ⟨c1, c2, c3, c4, c5, c6, c7⟩ := S.c
  have V := view_mono S.v (B' := B) (by omega)
  rw [c4] at V
  refine ⟨k, x, _, O, W, ov, wv, Or.inr ⟨hx, ht⟩, by omega, V, S.a, S.lg, by omega, gx_mono S.gx (fun j _ e => by rw [← c4]; exact e), done_bad h1 hok he hx, fun e => absurd e hx, tv, S.t, S.tt⟩
theorem actR_end {L : List Int} {A : List ActM} {b g cap vb tb B : Nat} {w1 wr : World} (h : ActR L A b g cap vb tb B w1 wr A.length) (hA : A.length ≤ 12) : FDone L b g cap (fun j => j = tb) B w1 (DoZ L A tb B) (.returned (.tuple #[])) wr := by
  obtain ⟨_, hok, ov, wv, O, W, tv, S, hO⟩ := h
  obtain ⟨c1, c2, c3, c4, c5, c6, c7⟩ := S.c
  have V := view_mono S.v (B' := B) (by omega)
  rw [c4] at V
  exact ⟨A.length, 0, _, O, W, ov, wv, Or.inl ⟨rfl, rfl⟩, by omega, V, S.a, S.lg, by omega, gx_mono S.gx (fun j _ e => by rw [← c4]; exact e), done_end hok, fun _ => rfl, tv, S.t, S.tt⟩
theorem actR_next {L : List Int} {A : List ActM} {b g cap vb tb B : Nat} {w1 wr : World} {k : Nat} {ov wv : Value} {O W : List Int} {tv : Value} {T M : List Int} {t : ActM} (ht : t = A[k]?.getD ⟨0, 0, 0⟩) (h1 : k < A.length) (hok : ∀ j, j < k → ∀ t, A[j]? = some t → actE (stL L A j) t = 0) (he : actE (stL L A k) t = 0) (S : ActSt L b g cap vb tb B w1 wr ((k : Int) + 1) ov wv O W tv T M) (hO : O.length ≤ k + 1) (hT : T = toldL L A (k + 1)) (hM : M = stL L A (k + 1)) : ActR L A b g cap vb tb B w1 wr (k + 1) := by
  subst hT; subst hM
  have e : t = A[k] := by rw [ht, List.getElem?_eq_getElem h1]; rfl
  rw [e] at he
  refine ⟨by omega, ok_step h1 hok he, ov, wv, O, W, tv, ?_, hO⟩
  rw [show ((k + 1 : Nat) : Int) = (k : Int) + 1 by omega]; exact S
set_option maxHeartbeats 4000000 in
theorem doact_any {L : List Int} {A : List ActM} {b g cap vb tb lb B : Nat} {w1 : World} {lv : Value} (h0 : ActR L A b g cap vb tb B w1 w1 0) (hA : A.length ≤ 12) (hg : ∀ t ∈ A, GoodA t ∧ KindA t) (hl : Blk w1 lb [lv]) (hr : ReadR actR w1 lv A) (hlb : lb ≠ g ∧ lb ≠ tb ∧ lb < B) (hlr : ∀ j, lv.ownBlock = some j → j ≠ g ∧ j ≠ tb ∧ j < B) :
    Calls Try.prog 69 #[tp vb, tp lb, tp tb] w1 (FDone L b g cap (fun j => j = tb) B w1 (DoZ L A tb B)) := by
  obtain ⟨la, lc, rfl, q1, q2, q3, q4⟩ := hr
  have H0 := Lib.hid h0
  have HG := Lib.hid hg
  have HLR := Lib.hid hlr
  have HQ := Lib.hid q4
  have HA := Lib.hid hA
  have hA1 : (A.length : Int) ≤ 12 := by omega
  have hqc : (A.length : Int) ≤ lc := by omega
  obtain ⟨l0, lf⟩ := blk1 hl
  clear h0 hg hlr q4 hl q3 hlb
  unfold tp
  go_enter Try.func69, Try.ntmps69
  go_wp2_with fail
  go_loopw [8] (fun i wr => ∃ k : Nat, i = .int .i64 k ∧ k ≤ A.length ∧ Hid (ActR L A b g cap vb tb B w1 wr k)) (fun i _ => A.length - (intOf i).toNat)
  case atStart => exact ⟨0, rfl, Nat.zero_le _, H0.out⟩
  case round =>
    obtain ⟨k, rfl, hk, hR⟩ := hrel
    by_cases hlt : k < A.length
    · obtain ⟨ab, ao, rfl, hab, h4⟩ := HQ.out (by omega)
      obtain ⟨hk', hok, ov, wv, O, W, tv, S, hO⟩ := hR.out
      obtain ⟨x0, x1, x2⟩ := act_cells h4 k hlt
      obtain ⟨r1, r2, r3⟩ := HLR.out ab rfl
      have cc := S.c
      have nx : ¬ (ab = vb ∨ ab = g ∨ ab = tb) := by have := cc.cv; omega
      have y0 := (cell_gx S.gx hab nx (ao + k * 3)).trans x0
      have y1 := (cell_gx S.gx hab nx (ao + k * 3 + 1)).trans x1
      have y2 := (cell_gx S.gx hab nx (ao + k * 3 + 2)).trans x2
      obtain ⟨⟨gx0, gx1⟩, hkind⟩ := HG.out _ (List.getElem_mem hlt)
      have hst := stL_succ L A hlt
      have hok2 := Lib.hid hok
      have HS := Lib.hid S
      have HO := Lib.hid hO
      obtain ⟨t, ht⟩ : ∃ t, t = A[k] := ⟨_, rfl⟩
      rw [← ht] at y0 y1 y2 gx0 gx1 hkind hst
      have HT := Lib.hid ht
      have HX0 := Lib.hid gx0
      have HX1 := Lib.hid gx1
      have HST := Lib.hid hst
      have k0 : (0 : Int) ≤ k := by omega
      have k1 : (k : Int) < A.length := by omega
      obtain ⟨tk, ta, tx⟩ := t
      simp only at y0 y1 y2 gx0 gx1 hkind
      have HKN : Hid (KindA ⟨tk, ta, tx⟩) := hkind
      have Sx := as_below S (b_alloc (Below.refl wr.heap.size wr) (.cells #[.int .i64 tk, .int .i64 ta, .int .u64 tx] 45))
      have BX : Hid (Blk (wr.alloc (.cells #[.int .i64 tk, .int .i64 ta, .int .u64 tx] 45)) wr.heap.size [.int .i64 tk, .int .i64 ta, .int .u64 tx]) := blk_new _ _ _
      have HSX := Lib.hid Sx
      have HTK : Hid ((⟨tk, ta, tx⟩ : ActM) = A[k]?.getD ⟨0, 0, 0⟩) := by show _ = _; rw [HT.out, List.getElem?_eq_getElem hlt]; rfl
      have HOW : Hid (W.length ≤ 12) := by show W.length ≤ 12; rw [← S.lg.len]; have := HA.out; omega
      have HOO : Hid (O.length ≤ 12) := by show O.length ≤ 12; have := HA.out; omega
      have HCC := Lib.hid cc
      have HTV := Lib.hid (fun j hj => (ownR_lt S.tt j hj).2)
      have HLT := Lib.hid hlt
      have HSZ : Hid (B + 5 ≤ wr.heap.size) := by show _ ≤ _; have := S.gx.size; have := cc.cw; omega
      clear hR hk' hok S hO x0 x1 x2 h4 cc nx hst ht gx0 gx1 hkind l0 lf Sx
      rcases HKN.out with h | h | h
      · have h : tk = 0 := h
        subst h
        by_cases he : wordE (stL L A k).length ta = 0
        · have HGO := Lib.hid (fun (w' : World) (hb : Below (wr.alloc (.cells #[.int .i64 0, .int .i64 ta, .int .u64 tx] 45)).heap.size (wr.alloc (.cells #[.int .i64 0, .int .i64 ta, .int .u64 tx] 45)) w') => vget_ok (as_below HSX.out hb).a (as_below HSX.out hb).v k0 (by omega) ta he)
          obtain ⟨z0, z1, z2, zf⟩ := blk3 BX.out
          obtain ⟨t0, tf⟩ := blk1 HSX.out.t
          have HTB := Lib.hid HSX.out.t
          have HE := Lib.hid he
          have ht0 : Hid (∀ w', Below (wr.alloc (.cells #[.int .i64 0, .int .i64 ta, .int .u64 tx] 45)).heap.size (wr.alloc (.cells #[.int .i64 0, .int .i64 ta, .int .u64 tx] 45)) w' → True) := fun _ _ => trivial
          clear he
          go_wp2_with fail
          refine wp_region_E (S := fun w' => w'.cell? ⟨tb, 0, none⟩ = some tv ∧ w'.cell? ⟨wr.heap.size, 1, none⟩ = some (.int .i64 ta)) 7 (by kernel_rfl) ⟨t0, z1⟩ (fun hHeld => ?_)
          clear t0 tf z0 z1 z2 zf
          (refine wpAnyE_take (n := 12) (i := 0) (v := ?_) rfl (by kernel_rfl) (by kernel_rfl) (by kernel_rfl) (by kernel_rfl) (by kernel_rfl) (fun _ _ _ h => h) (Or.inl ⟨by rfl, ?_⟩) hHeld ?_; rotate_left; (focus (intro w hSw; (try dsimp only at hSw); go_simp; try (with_reducible rfl))); (try simp only [Act.put, List.getElem_toArray, List.getElem_cons_succ, List.getElem_cons_zero, List.setIfInBounds_toArray, List.set_cons_zero, List.set_cons_succ]))
          (refine wpAnyE_take (n := 12) (i := 1) (v := ?_) rfl (by kernel_rfl) (by kernel_rfl) (by kernel_rfl) (by kernel_rfl) (by kernel_rfl) (fun _ _ _ h => h) (Or.inl ⟨by rfl, ?_⟩) hHeld ?_; rotate_left; (focus (intro w hSw; (try dsimp only at hSw); go_simp; try (with_reducible rfl))); (try simp only [Act.put, List.getElem_toArray, List.getElem_cons_succ, List.getElem_cons_zero, List.setIfInBounds_toArray, List.set_cons_zero, List.set_cons_succ]))
          (refine wpAnyE_take (n := 12) (i := 2) (v := ?_) rfl (by kernel_rfl) (by kernel_rfl) (by kernel_rfl) (by kernel_rfl) (by kernel_rfl) (fun _ _ _ h => h) (Or.inl ⟨by rfl, ?_⟩) hHeld ?_; rotate_left; (focus (intro w hSw; (try dsimp only at hSw); go_simp; try (with_reducible rfl))); (try simp only [Act.put, List.getElem_toArray, List.getElem_cons_succ, List.getElem_cons_zero, List.setIfInBounds_toArray, List.set_cons_zero, List.set_cons_succ]))
          (refine wpAnyE_take (n := 12) (i := 3) (v := ?_) rfl (by kernel_rfl) (by kernel_rfl) (by kernel_rfl) (by kernel_rfl) (by kernel_rfl) (fun _ _ _ h => h) (Or.inl ⟨by rfl, ?_⟩) hHeld ?_; rotate_left; (focus (intro w hSw; (try dsimp only at hSw); go_simp; try (with_reducible rfl))); (try simp only [Act.put, List.getElem_toArray, List.getElem_cons_succ, List.getElem_cons_zero, List.setIfInBounds_toArray, List.set_cons_zero, List.set_cons_succ]))
          refine wpAnyE_ready (rs := [4]) (by kernel_rfl) (by simp) (AllReadyE.cons rfl (fun K hK => ?_) AllReadyE.nil)
          go_simp
          refine (HGO.out _ (b_drew (Below.refl _ _))).mono ?_
          rintro e w2 ⟨rfl, hw2⟩
          have S2 : ActSt L b g cap vb tb B w1 w2 ((k : Int) + 1) ov wv O W tv (toldL L A k) (stL L A k) := by rw [hw2]; exact as_count (as_below HSX.out (b_drew (Below.refl _ _))) _
          have B2 : Blk w2 wr.heap.size [.int .i64 0, .int .i64 ta, .int .u64 tx] := by rw [hw2]; exact blk_other (blk_drew BX.out) (by have := HCC.out.cv; have := HSZ.out; simp only; omega) _
          have HS2 := Lib.hid S2
          have HB2 := Lib.hid B2
          have HSZ2 : Hid (wr.heap.size < w2.heap.size) := B2.1
          have hK2 : Hid (w2.cell? ⟨tb, 0, none⟩ = some tv ∧ w2.cell? ⟨wr.heap.size, 1, none⟩ = some (.int .i64 ta)) := ⟨(blk1 S2.t).1, (blk3 B2).2.1⟩
          clear hw2 S2 B2
          refine hK.out _ _ (hK2.out) (fun hHeld => ?_)
          clear hK K
          (try simp only [Act.put, List.getElem_toArray, List.getElem_cons_succ, List.getElem_cons_zero, List.setIfInBounds_toArray, List.set_cons_zero, List.set_cons_succ])
          refine wpAnyE_ready (rs := [5]) (by kernel_rfl) (by simp) (AllReadyE.cons rfl (fun K hK => ?_) AllReadyE.nil)
          go_simp
          obtain ⟨y, hy⟩ : ∃ y, y = getW (stL L A k) ta.toNat := ⟨_, rfl⟩
          rw [← hy]
          have HY := Lib.hid hy
          clear hy
          have S3 := as_below HS2.out (b_alloc (Below.refl w2.heap.size w2) (.cells #[.int .u64 y] 43))
          have B3 := blk_alloc HB2.out (.cells #[.int .u64 y] 43)
          have Y3 := blk_new w2 #[.int .u64 y] 43
          have HS3 := Lib.hid S3
          have HB3 := Lib.hid B3
          have HY3 := Lib.hid Y3
          have hK3 : Hid ((w2.alloc (.cells #[.int .u64 y] 43)).cell? ⟨tb, 0, none⟩ = some tv ∧ (w2.alloc (.cells #[.int .u64 y] 43)).cell? ⟨wr.heap.size, 1, none⟩ = some (.int .i64 ta)) := ⟨(blk1 S3.t).1, (blk3 B3).2.1⟩
          clear S3 B3 Y3
          refine hK.out _ _ (hK3.out) (fun hHeld => ?_)
          clear hK K
          (try simp only [Act.put, List.getElem_toArray, List.getElem_cons_succ, List.getElem_cons_zero, List.setIfInBounds_toArray, List.set_cons_zero, List.set_cons_succ])
          refine wpAnyE_ready (rs := [6]) (by kernel_rfl) (by simp) (AllReadyE.cons rfl (fun K hK => ?_) AllReadyE.nil)
          refine step_append1 rowU64 rfl _ _ rfl rfl HS3.out.tt y _ _ rfl HY3.out (by have := toldL_len L A k; have := HLT.out; have := HA.out; omega) (by have := toldL_len L A k; have := HLT.out; have := HA.out; unfold maxLen; omega) (by have := HSZ.out; have := HSZ2.out; simp only [World.size_alloc]; omega) ?_
          intro g5 cap5 w5 own5 gr5 or5 lt5
          obtain ⟨GX5, T5⟩ := as_cells HS3.out gr5
          have B5 := blk_gx HB3.out GX5 (fun e => by have := HTV.out _ e; omega)
          have S6 := as_told HS3.out own5 gr5 or5
          have HT5 := Lib.hid T5
          have HS6 := Lib.hid S6
          have hK5 : Hid (w5.cell? ⟨tb, 0, none⟩ = some tv ∧ w5.cell? ⟨wr.heap.size, 1, none⟩ = some (.int .i64 ta)) := ⟨(blk1 T5).1, (blk3 B5).2.1⟩
          obtain ⟨t0, tf⟩ := blk1 T5
          have tl := T5.1
          clear GX5 T5 B5 S6 own5 gr5 or5 lt5
          refine hK.out _ _ (hK5.out) (fun hHeld => ?_)
          clear hK K
          (try simp only [Act.put, List.getElem_toArray, List.getElem_cons_succ, List.getElem_cons_zero, List.setIfInBounds_toArray, List.set_cons_zero, List.set_cons_succ])
          refine wpAnyE_ready (rs := [7]) (by kernel_rfl) (by simp) (AllReadyE.last rfl (fun K hK => ?_))
          go_simp
          refine hK.out _ _ (trivial) (fun hHeld => ?_)
          clear hK K
          (try simp only [Act.put, List.getElem_toArray, List.getElem_cons_succ, List.getElem_cons_zero, List.setIfInBounds_toArray, List.set_cons_zero, List.set_cons_succ])
          refine wpAnyE_done (by kernel_rfl) ?_
          go_wp2_with fail
          refine ⟨⟨k + 1, by go_num, HLT.out, actR_next HTK.out HLT.out hok2.out ?_ HS6.out (by have := HO.out; omega) ?_ ?_⟩, by simp only [intOf]; omega⟩
          · exact HE.out
          · rw [toldL_yes HLT.out (by rw [← HT.out]), ← HT.out, HY.out]
          · rw [HST.out]; rfl
        · have HB := Lib.hid (vget_bad HSX.out.a HSX.out.v ta he)
          obtain ⟨z0, z1, z2, zf⟩ := blk3 BX.out
          obtain ⟨t0, tf⟩ := blk1 HSX.out.t
          have HE := Lib.hid he
          have HEN : Hid (actE (stL L A k) (A[k]'hlt) = wordE (stL L A k).length ta) := by show actE _ _ = _; rw [← HT.out]; exact actE_get rfl
          have hK0 : Hid ((wr.alloc (.cells #[.int .i64 0, .int .i64 ta, .int .u64 tx] 45)).cell? ⟨tb, 0, none⟩ = some tv ∧ (wr.alloc (.cells #[.int .i64 0, .int .i64 ta, .int .u64 tx] 45)).cell? ⟨wr.heap.size, 1, none⟩ = some (.int .i64 ta)) := ⟨t0, z1⟩
          have HSD := Lib.hid (as_below HSX.out (b_drew (Below.refl _ _)))
          have HBD := Lib.hid (vget_bad HSD.out.a HSD.out.v ta he)
          clear he
          go_wp2_with fail
          refine wp_region_E (S := fun w' => w'.cell? ⟨tb, 0, none⟩ = some tv ∧ w'.cell? ⟨wr.heap.size, 1, none⟩ = some (.int .i64 ta)) 7 (by kernel_rfl) hK0.out (fun hHeld => ?_)
          clear t0 tf z0 z1 z2 zf
          (refine wpAnyE_take (n := 12) (i := 0) (v := ?_) rfl (by kernel_rfl) (by kernel_rfl) (by kernel_rfl) (by kernel_rfl) (by kernel_rfl) (fun _ _ _ h => h) (Or.inl ⟨by rfl, ?_⟩) hHeld ?_; rotate_left; (focus (intro w hSw; (try dsimp only at hSw); go_simp; try (with_reducible rfl))); (try simp only [Act.put, List.getElem_toArray, List.getElem_cons_succ, List.getElem_cons_zero, List.setIfInBounds_toArray, List.set_cons_zero, List.set_cons_succ]))
          (refine wpAnyE_take (n := 12) (i := 1) (v := ?_) rfl (by kernel_rfl) (by kernel_rfl) (by kernel_rfl) (by kernel_rfl) (by kernel_rfl) (fun _ _ _ h => h) (Or.inl ⟨by rfl, ?_⟩) hHeld ?_; rotate_left; (focus (intro w hSw; (try dsimp only at hSw); go_simp; try (with_reducible rfl))); (try simp only [Act.put, List.getElem_toArray, List.getElem_cons_succ, List.getElem_cons_zero, List.setIfInBounds_toArray, List.set_cons_zero, List.set_cons_succ]))
          (refine wpAnyE_take (n := 12) (i := 2) (v := ?_) rfl (by kernel_rfl) (by kernel_rfl) (by kernel_rfl) (by kernel_rfl) (by kernel_rfl) (fun _ _ _ h => h) (Or.inl ⟨by rfl, ?_⟩) hHeld ?_; rotate_left; (focus (intro w hSw; (try dsimp only at hSw); go_simp; try (with_reducible rfl))); (try simp only [Act.put, List.getElem_toArray, List.getElem_cons_succ, List.getElem_cons_zero, List.setIfInBounds_toArray, List.set_cons_zero, List.set_cons_succ]))
          (refine wpAnyE_take (n := 12) (i := 3) (v := ?_) rfl (by kernel_rfl) (by kernel_rfl) (by kernel_rfl) (by kernel_rfl) (by kernel_rfl) (fun _ _ _ h => h) (Or.inl ⟨by rfl, ?_⟩) hHeld ?_; rotate_left; (focus (intro w hSw; (try dsimp only at hSw); go_simp; try (with_reducible rfl))); (try simp only [Act.put, List.getElem_toArray, List.getElem_cons_succ, List.getElem_cons_zero, List.setIfInBounds_toArray, List.set_cons_zero, List.set_cons_succ]))
          refine wpAnyE_ready (rs := [4]) (by kernel_rfl) (by simp) (AllReadyE.cons rfl (fun K hK => ?_) AllReadyE.nil)
          go_simp
          refine HBD.out.mono ?_
          rintro e w2 ⟨ht, rfl⟩
          have HTR := Lib.hid ht
          unfold Trapped at ht
          subst ht
          go_wp2_with fail
          exact ⟨rfl, actR_bad HLT.out hok2.out HSD.out HO.out HA.out HEN.out HE.out HTR.out⟩
      · have h : tk = 1 := h
        subst h
        by_cases he : wordE (stL L A k).length ta = 0
        · have HSO := Lib.hid (vset_ok HSX.out.a HSX.out.v (by have := HCC.out.cb; omega) (by have := HCC.out.cg; omega) (by have := HCC.out.cv; have := HCC.out.cb; have := HCC.out.cg; omega) (by have := HSZ.out; simp only [World.size_alloc]; omega) k0 (by omega) (by have := HOO.out; omega) (by have := HOW.out; omega) ta tx he HX0.out HX1.out)
          obtain ⟨z0, z1, z2, zf⟩ := blk3 BX.out
          have HE := Lib.hid he
          clear he
          go_wp2_with fail
          refine HSO.out.mono ?_
          rintro e w2 ⟨rfl, ov', wv', V2, A2, G2, hno⟩
          have S2 := as_set HSX.out V2 A2 G2 hno (log_set HSX.out.lg HSX.out.a.by_ HE.out)
          have HS2 := Lib.hid S2
          clear V2 A2 G2 hno S2 z0 z1 z2 zf
          go_wp2_with fail
          refine ⟨⟨k + 1, by go_num, HLT.out, actR_next HTK.out HLT.out hok2.out ?_ HS2.out (by have := HO.out; simp; omega) ?_ ?_⟩, by simp only [intOf]; omega⟩
          · rw [actE_set rfl]; exact HE.out
          · rw [toldL_no HLT.out (by rw [← HT.out]; show (1 : Int) ≠ 0; decide)]
          · rw [HST.out]; rfl
        · have HBD := Lib.hid (vset_bad HSX.out.a HSX.out.v ta tx he)
          obtain ⟨z0, z1, z2, zf⟩ := blk3 BX.out
          have HE := Lib.hid he
          have HEN : Hid (actE (stL L A k) (A[k]'hlt) = wordE (stL L A k).length ta) := by show actE _ _ = _; rw [← HT.out]; exact actE_set rfl
          clear he
          go_wp2_with fail
          refine HBD.out.mono ?_
          rintro e w2 ⟨ht, rfl⟩
          have HTR := Lib.hid ht
          unfold Trapped at ht
          subst ht
          clear z0 z1 z2 zf
          go_wp2_with fail
          exact ⟨rfl, actR_bad HLT.out hok2.out HSX.out HO.out HA.out HEN.out HE.out HTR.out⟩
      · have h : tk = 2 := h
        subst h
        have htm : tx.tmod 2 = tx % 2 := Int.tmod_eq_emod_of_nonneg HX0.out
        by_cases he : tx % 2 = 1
        · have HNO := Lib.hid (vneed_ok HSX.out.v.bk k0 (by omega))
          obtain ⟨z0, z1, z2, zf⟩ := blk3 BX.out
          rw [he] at htm
          have HE := Lib.hid he
          clear he
          go_wp2_with fail
          refine HNO.out.mono ?_
          rintro e w2 ⟨rfl, hw2⟩
          have HS2 : Hid (ActSt L b g cap vb tb B w1 w2 ((k : Int) + 1) ov wv O W tv (toldL L A k) (stL L A k)) := by show ActSt _ _ _ _ _ _ _ _ _ _ _ _ _ _ _ _ _; rw [hw2]; exact as_count HSX.out _
          clear hw2 z0 z1 z2 zf
          go_wp2_with fail
          refine ⟨⟨k + 1, by go_num, HLT.out, actR_next HTK.out HLT.out hok2.out ?_ HS2.out (by have := HO.out; omega) ?_ ?_⟩, by simp only [intOf]; omega⟩
          · rw [actE_need rfl, if_pos HE.out]
          · rw [toldL_no HLT.out (by rw [← HT.out]; show (2 : Int) ≠ 0; decide)]
          · rw [HST.out]; rfl
        · have HBD := Lib.hid (vneed_bad HSX.out.v.bk)
          obtain ⟨z0, z1, z2, zf⟩ := blk3 BX.out
          have htm2 : (tx.tmod 2 == 1) = false := by rw [beq_eq_false_iff_ne, htm]; exact he
          have HEN : Hid (actE (stL L A k) (A[k]'hlt) = 8) := by show actE _ _ = _; rw [← HT.out, actE_need rfl]; exact if_neg he
          clear he htm
          go_wp2_with fail
          refine HBD.out.mono ?_
          rintro e w2 ⟨ht, rfl⟩
          have HTR := Lib.hid ht
          unfold Trapped at ht
          subst ht
          clear z0 z1 z2 zf
          go_wp2_with fail
          exact ⟨rfl, actR_bad HLT.out hok2.out HSX.out HO.out HA.out HEN.out (by decide) HTR.out⟩
    · have e : k = A.length := by omega
      subst e
      clear l0 lf
      go_wp2_with fail
      exact ⟨rfl, .tuple #[], by simp [results, Try.results69, go_sem], actR_end hR.out HA.out⟩
end Go.Proofs.Ytgbbnmjfkhconaa
