/- Layer 28, plain: the references by the maps. No program in sight. No conditions beside those stated. Layer 28: the contract of ByMaps. Conditions: what is asked reads as lists, and is not too great. -/
import Derived.Test.YtdmidnmciaediaaWFrM
import Derived.Test.YtdmidnmciaediaaWMap3
import Derived.Deep.DeepCutAuto
namespace Go.Proofs.Ytdmidnmciaediaa
section
set_option linter.unusedVariables false
set_option linter.unusedSimpArgs false
theorem picks_cons (M : List ValM) (i : Nat) (S : List Int) : picksM M ((i : Int) :: S) = (if h : i < M.length then [M[i]] else []) ++ picksM M S := by
  unfold picksM
  by_cases q : i < M.length
  · rw [dif_pos q, List.filterMap_cons_some (b := M[i]) (by rw [if_pos (by omega), Int.toNat_natCast, getD_at9 q])]; rfl
  · rw [dif_neg q, List.filterMap_cons_none (by rw [if_neg (by omega)])]; rfl
theorem refV_picks (M : List ValM) : ∀ (ks : List Int) (i : Nat), refV (picksM M (refsF ks i)) = refW (M.drop i) ks
  | [], i => by rw [refW_nil]; rfl
  | k :: ks, i => by
    have ih := refV_picks M ks (i + 1)
    by_cases hi : i < M.length
    · rw [List.drop_eq_getElem_cons hi]
      show refV (picksM M (if k = 2 then (i : Int) :: refsF ks (i + 1) else refsF ks (i + 1))) = (if M[i].k = 2 ∧ 0 < M[i].b ∧ k = 2 then [refI M[i].b] else []) ++ refW (M.drop (i + 1)) ks
      by_cases hk : k = 2
      · rw [if_pos hk, picks_cons, dif_pos hi, List.singleton_append, refV_cons, ih]
        congr 1
        by_cases q : M[i].k = 2 ∧ 0 < M[i].b
        · rw [if_pos q, if_pos ⟨q.1, q.2, hk⟩]
        · rw [if_neg q, if_neg (fun z => q ⟨z.1, z.2.1⟩)]
      · rw [if_neg hk, ih, if_neg (fun z => hk z.2.2)]; rfl
    · rw [List.drop_eq_nil_of_le (by omega)]
      rw [List.drop_eq_nil_of_le (by omega)] at ih
      show refV (picksM M (if k = 2 then (i : Int) :: refsF ks (i + 1) else refsF ks (i + 1))) = []
      by_cases hk : k = 2
      · rw [if_pos hk, picks_cons, dif_neg hi, List.nil_append, ih]; rfl
      · rw [if_neg hk, ih]; rfl
theorem picks_len (M : List ValM) : ∀ (ks : List Int) (i : Nat), (picksM M (refsF ks i)).length ≤ M.length - i
  | [], i => Nat.zero_le _
  | k :: ks, i => by
    have ih := picks_len M ks (i + 1)
    show (picksM M (if k = 2 then (i : Int) :: refsF ks (i + 1) else refsF ks (i + 1))).length ≤ _
    by_cases hk : k = 2
    · rw [if_pos hk, picks_cons, List.length_append]
      by_cases hi : i < M.length
      · rw [dif_pos hi, List.length_singleton]; omega
      · rw [dif_neg hi]; simp only [List.length_nil]; omega
    · rw [if_neg hk]; omega
theorem refsF_low : ∀ (ks : List Int) (i : Nat), ∀ x ∈ refsF ks i, (0 : Int) ≤ x
  | [], i, x, h => by cases h
  | k :: ks, i, x, h => by
    have h' : x ∈ (if k = 2 then (i : Int) :: refsF ks (i + 1) else refsF ks (i + 1)) := h
    by_cases hk : k = 2
    · rw [if_pos hk] at h'
      rcases List.mem_cons.1 h' with rfl | h'
      · omega
      · exact refsF_low ks (i + 1) x h'
    · rw [if_neg hk] at h'
      exact refsF_low ks (i + 1) x h'
/-- By the maps; as the program goes about it, as the document does. -/
def kindsOf (P : PrM) (m : FrM) : List Int := (P.fs.getD m.f.toNat fzM).ps ++ (P.fs.getD m.f.toNat fzM).ls
def mapsOne (P : PrM) (Fx : FxM) (m : FrM) : List Int := if metB P Fx m.f m.at_ = true then refV (picksM m.loc (refsL (kindsOf P m))) ++ refV (picksM m.stk (refsL (factM Fx m.f.toNat m.at_.toNat).2)) else []
def mapsAll (P : PrM) (Fx : FxM) (L : List FrM) : List Int := L.flatMap (mapsOne P Fx)
def docOne (P : PrM) (Fx : FxM) (m : FrM) : List Int := if metB P Fx m.f m.at_ = true then refW m.loc (kindsOf P m) ++ refW m.stk (factM Fx m.f.toNat m.at_.toNat).2 else []
def docAll (P : PrM) (Fx : FxM) (L : List FrM) : List Int := L.flatMap (docOne P Fx)
theorem maps_doc (P : PrM) (Fx : FxM) (L : List FrM) : mapsAll P Fx L = docAll P Fx L := by
  unfold mapsAll docAll
  congr 1
  funext m
  unfold mapsOne docOne refsL
  rw [refV_picks, refV_picks]
  rfl
/-- Is each value of the kind that the facts tell? -/
def rightOne (P : PrM) (Fx : FxM) (m : FrM) : Bool := metB P Fx m.f m.at_ && (decide (m.stk.length ≤ (factM Fx m.f.toNat m.at_.toNat).2.length) && decide (kindsV m.stk = (factM Fx m.f.toNat m.at_.toNat).2.take m.stk.length))
def rightM (P : PrM) (Fx : FxM) (L : List FrM) : Bool := L.all (rightOne P Fx)
theorem right_one {P : PrM} {Fx : FxM} {m : FrM} (h : rightOne P Fx m = true) (hk : kindsV m.loc = kindsOf P m) : docOne P Fx m = refV m.loc ++ refV m.stk := by
  unfold rightOne at h
  simp only [Bool.and_eq_true, decide_eq_true_eq] at h
  obtain ⟨h1, h2, h3⟩ := h
  unfold docOne
  rw [if_pos h1, ← hk, refW_kinds, refW_right m.stk _ (fun i hi => ?_)]
  have e : (kindsV m.stk)[i]? = some m.stk[i].k := by unfold kindsV; rw [List.getElem?_map, List.getElem?_eq_getElem hi]; rfl
  rw [h3, List.getElem?_take] at e
  rw [if_pos hi] at e
  exact e
theorem right_all {P : PrM} {Fx : FxM} : ∀ (L : List FrM), rightM P Fx L = true → (∀ m ∈ L, kindsV m.loc = kindsOf P m) → mapsAll P Fx L = refsAll L := by
  intro L h hk
  rw [maps_doc]
  unfold docAll refsAll rightM at *
  induction L with
  | nil => rfl
  | cons m L ih =>
    rw [List.all_cons, Bool.and_eq_true] at h
    rw [List.flatMap_cons, List.flatMap_cons, ih h.2 (fun x hx => hk x (List.mem_cons_of_mem _ hx)), right_one h.1 (hk m (List.mem_cons_self ..))]
end
section
open Go.RowKit
set_option linter.unusedVariables false
set_option linter.unusedSimpArgs false
attribute [local go_sem] over_cell over_frozen
variable {w0 w w' : World} {s : Nat} {p : PrV} {P : PrM} {lv : Sl} {ds : List FrD} {L : List FrM}
theorem picks_refs {M : List ValM} (ks : List Int) : (picksM M (refsL ks)).length ≤ M.length := by
  have := picks_len M ks 0
  show (picksM M (refsF ks 0)).length ≤ _
  omega
theorem mapsOne_len {P : PrM} {Fx : FxM} {m : FrM} (hm : m.loc.length ≤ 100 ∧ m.stk.length ≤ 100) : (mapsOne P Fx m).length ≤ 200 := by
  unfold mapsOne
  split
  · have q1 := refV_len (picksM m.loc (refsL (kindsOf P m)))
    have q2 := refV_len (picksM m.stk (refsL (factM Fx m.f.toNat m.at_.toNat).2))
    have q3 := picks_refs (M := m.loc) (kindsOf P m)
    have q4 := picks_refs (M := m.stk) (factM Fx m.f.toNat m.at_.toNat).2
    rw [List.length_append]; omega
  · simp
theorem mapsAll_len {P : PrM} {Fx : FxM} {L : List FrM} (hL : L.length ≤ 24) (hm : ∀ m ∈ L, m.loc.length ≤ 100 ∧ m.stk.length ≤ 100) (k : Nat) : (mapsAll P Fx (L.take k)).length ≤ 4800 := by
  have h := flatMap_len (f := mapsOne P Fx) (n := 200) (L.take k) (fun m hmm => mapsOne_len (hm m (List.mem_of_mem_take hmm)))
  have e : (L.take k).length ≤ L.length := by rw [List.length_take]; omega
  show ((L.take k).flatMap (mapsOne P Fx)).length ≤ 4800
  omega
/-- maps.Of, in one row. -/
def RetOf3 (w : World) (B : Bool) (K1 K2 : List Int) (e : Ending) (w' : World) : Prop := ∃ s t : Sl, e = .returned (.tuple #[.agg #[.slice s.a s.n s.c, .slice t.a t.n t.c], .bool B]) ∧ (B = true → ReadI w' s.v K1 ∧ ReadI w' t.v K2 ∧ (∀ k, s.v.ownBlock = some k → w.heap.size ≤ k) ∧ (∀ k, t.v.ownBlock = some k → w.heap.size ≤ k)) ∧ Below w.heap.size w w'
theorem mof_row (p : PrV) (P : PrM) (v : Value) (Fx : FxM) (m : FrM) (w : World) (h : ReadP w p P) (hP : SmallP P) (hf : FacR w v Fx) (hl : ∀ i j, (factM Fx i j).2.length ≤ 17592186044415) : Calls Try.prog 53 #[aggP p, v, .int .i64 m.f, .int .i64 m.at_] w (RetOf3 w (metB P Fx m.f m.at_) (refsL (kindsOf P m)) (refsL (factM Fx m.f.toNat m.at_.toNat).2)) :=
  (mof_own p P v Fx m.f m.at_ w h hP hf hl).mono (fun e w' hr => by
    unfold RetOf2 at hr
    cases hB : metB P Fx m.f m.at_ with
    | true =>
      rw [if_pos hB] at hr
      obtain ⟨⟨s, t, h1, h2⟩, h4⟩ := hr
      exact ⟨s, t, h1, fun _ => h2, h4⟩
    | false =>
      rw [if_neg (by rw [hB]; decide)] at hr
      obtain ⟨h1, h4⟩ := hr
      exact ⟨⟨none, 0, 0⟩, ⟨none, 0, 0⟩, h1, (fun h => by cases h), h4⟩)
set_option maxRecDepth 100000 in
set_option maxHeartbeats 8000000 in
theorem fbymaps_any (h : FrsAt w0 w s p lv ds L) (hp : ReadP w p P) (hP : SmallP P) (va : Option Addr) (vn vc : Nat) (Fx : FxM) (hf : FacR w (.slice va vn vc) Fx) (hfk : ∀ i j, (factM Fx i j).2.length ≤ 17592186044415) (hL : L.length ≤ 24) (hm : ∀ m ∈ L, m.loc.length ≤ 100 ∧ m.stk.length ≤ 100) : Calls Try.prog 32 #[fp s, .slice va vn vc] w (FRefsEnd w (mapsAll P Fx L)) := by
  have HF := Lib.hid (fun w' (hb : Below w.heap.size w w') => flen_any (frs_below h hb))
  have HH := Lib.hid h; have HM := Lib.hid hm; have HYL := Lib.hid (mapsAll_len (P := P) (Fx := Fx) hL hm); have HFK := Lib.hid hfk
  have HMOF := Lib.hid (fun (m : FrM) w' (hb : Below w.heap.size w w') => mof_row p P (.slice va vn vc) Fx m w' (readP_below hp hb) hP (facR_below hf hb) hfk)
  have HKS := Lib.hid hP
  obtain ⟨la, ln, lc⟩ := lv
  have HS4 : Hid (∀ w', Below w.heap.size w w' → w'.cell? ⟨s, 4, none⟩ = some (.slice la L.length lc)) := Lib.hid (fun w' hb => (frs_cells (frs_below h hb)).2.1)
  obtain ⟨pu, ⟨ga, gn, gc⟩, pm, ⟨fa, fn, fc⟩⟩ := p
  have HS0 : Hid (∀ w', Below w.heap.size w w' → (w'.cell? ⟨s, 0, none⟩ = some (.bool pu) ∧ w'.cell? ⟨s, 1, none⟩ = some (.slice ga gn gc)) ∧ (w'.cell? ⟨s, 2, none⟩ = some (.int .i64 pm) ∧ w'.cell? ⟨s, 3, none⟩ = some (.slice fa fn fc))) := Lib.hid (fun w' hb => by
    have hx := (blk_below h.hd hb).2.1
    exact ⟨⟨by simpa using hx 0 (by simp), by simpa using hx 1 (by simp)⟩, by simpa using hx 2 (by simp), by simpa using hx 3 (by simp)⟩)
  have sz := h.hd.1
  unfold fp at *
  unfold aggP Sl.v at HMOF
  simp only at HMOF
  clear h hm hf hp hP hfk
  go_enter Try.func32, Try.ntmps32
  go_wp2_with fail
  refine (HF.out _ (Below.refl _ _)).mono ?_
  rintro e w1 ⟨rfl, rfl⟩
  go_wp2_with fail
  go_loopw [5, 12] (fun v i wr => ∃ k : Nat, k ≤ L.length ∧ i = .int .i64 k ∧ (∃ (a' : Option Addr) (n c' : Nat) (Y : List Int), v = .slice a' n c' ∧ n = Y.length ∧ Hid (Y = mapsAll P Fx (L.take k)) ∧ Hid (OwnR intE 3 wr w.heap.size (.slice a' Y.length c') Y)) ∧ Hid (Below w.heap.size w wr)) (fun _ i _ => L.length - (intOf i).toNat)
  case atStart => exact ⟨0, Nat.zero_le _, rfl, ⟨none, 0, 0, [], rfl, rfl, Lib.hid rfl, Lib.hid (ownR_nil _ _)⟩, Lib.hid (Below.refl _ _)⟩
  case round =>
    obtain ⟨W1, hW1⟩ : ∃ x, x = wr := ⟨_, rfl⟩
    subst hW1
    obtain ⟨k, hk, rfl, ⟨a', n', c', Y, rfl, rfl, HEQ, HOW⟩, HB⟩ := hrel
    have k0 : (0 : Int) ≤ k := by omega
    by_cases hlt : k < L.length
    · have k1 : (k : Int) < L.length := by omega
      have k9 : (k : Int) < 9223372036854775807 := by omega
      obtain ⟨pb, db, xa, xc, ya, yc, e1, e3, ⟨zp, zd⟩, pk, ⟨c0, c1, c2, c3⟩, ol, os⟩ := fr_at HH.out k hlt
      simp only at e1 e3
      subst e1
      have kc : (k : Int) < lc := by omega
      have hml := HM.out _ (List.getElem_mem hlt)
      have HT : Hid (mapsAll P Fx (L.take (k + 1)) = mapsAll P Fx (L.take k) ++ mapsOne P Fx L[k]) := Lib.hid (flatMap_take _ L k hlt)
      have hYL : Y.length ≤ 4800 := by rw [HEQ.out]; exact HYL.out k
      generalize L[k] = m at *
      obtain ⟨S1, hS1⟩ : ∃ S1, S1 = refsL (kindsOf P m) := ⟨_, rfl⟩
      obtain ⟨S2, hS2⟩ : ∃ S2, S2 = refsL (factM Fx m.f.toNat m.at_.toNat).2 := ⟨_, rfl⟩
      obtain ⟨tm, htm⟩ : ∃ tm, tm = metB P Fx m.f m.at_ := ⟨_, rfl⟩
      obtain ⟨D1, hD1⟩ : ∃ D1, D1 = picksM m.loc S1 := ⟨_, rfl⟩
      obtain ⟨D2, hD2⟩ : ∃ D2, D2 = picksM m.stk S2 := ⟨_, rfl⟩
      obtain ⟨Y1, hY1⟩ : ∃ Y1, Y1 = Y ++ refV D1 := ⟨_, rfl⟩
      obtain ⟨Y2, hY2⟩ : ∃ Y2, Y2 = Y1 ++ refV D2 := ⟨_, rfl⟩
      have HONE : Hid (mapsOne P Fx m = if tm = true then refV D1 ++ refV D2 else []) := Lib.hid (by unfold mapsOne; rw [htm, hD1, hD2, hS1, hS2])
      have HE1 := Lib.hid hY1; have HE2 := Lib.hid hY2
      have HLEN : Hid ((D1.length ≤ 100 ∧ D2.length ≤ 100) ∧ (m.loc.length ≤ 100 ∧ m.stk.length ≤ 100) ∧ (S1.length ≤ 17592186044415 ∧ S2.length ≤ 17592186044415) ∧ (Y1.length ≤ 5000)) := Lib.hid (by
        have q1 := picks_refs (M := m.loc) (kindsOf P m)
        have q2 := picks_refs (M := m.stk) (factM Fx m.f.toNat m.at_.toNat).2
        rw [← hS1, ← hD1] at q1
        rw [← hS2, ← hD2] at q2
        have q3 := refV_len D1
        have q5 : S2.length ≤ 17592186044415 := by rw [hS2]; exact Nat.le_trans (refsF_len _ 0) (HFK.out _ _)
        have q4 : S1.length ≤ 17592186044415 := by
          rw [hS1]
          refine Nat.le_trans (refsF_len _ 0) ?_
          unfold kindsOf
          rw [List.length_append]
          by_cases hi : m.f.toNat < P.fs.length
          · rw [getD_at hi]
            have z := HKS.out.a _ (List.getElem_mem hi)
            have := z.p; have := z.l; omega
          · rw [List.getD_eq_getElem?_getD, List.getElem?_eq_none (by omega)]
            simp [fzM]
        refine ⟨⟨by omega, by omega⟩, hml, ⟨q4, q5⟩, ?_⟩
        rw [hY1, List.length_append]; omega)
      have HPOS : Hid ((∀ k ∈ S1, (0 : Int) ≤ k) ∧ (∀ k ∈ S2, (0 : Int) ≤ k)) := Lib.hid ⟨fun k hk => by rw [hS1] at hk; exact refsF_low _ 0 k hk, fun k hk => by rw [hS2] at hk; exact refsF_low _ 0 k hk⟩
      have HMC := Lib.hid (HMOF.out m)
      rw [← htm, ← hS1, ← hS2] at HMC
      have HPK1 : Hid (∀ wx a c sa sn sc, ReadR valE wx (.slice a m.loc.length c) m.loc → ReadI wx (.slice sa sn sc) S1 → Calls Try.prog 75 #[.slice a m.loc.length c, .slice sa sn sc] wx (PickEnd wx D1)) := Lib.hid (fun wx a c sa sn sc h1 h2 => by
        rw [hD1]
        exact fpick_any _ _ m.loc S1 wx h1 h2 HPOS.out.1 (by rw [← hD1]; have := HLEN.out.1.1; omega) (by have := hml.1; omega) HLEN.out.2.2.1.1)
      have HPK2 : Hid (∀ wx a c sa sn sc, ReadR valE wx (.slice a m.stk.length c) m.stk → ReadI wx (.slice sa sn sc) S2 → Calls Try.prog 75 #[.slice a m.stk.length c, .slice sa sn sc] wx (PickEnd wx D2)) := Lib.hid (fun wx a c sa sn sc h1 h2 => by
        rw [hD2]
        exact fpick_any _ _ m.stk S2 wx h1 h2 HPOS.out.2 (by rw [← hD2]; have := HLEN.out.1.2; omega) (by have := hml.2; omega) HLEN.out.2.2.1.2)
      have HRF1 : Hid (∀ wx a c a9 c9, w.heap.size ≤ wx.heap.size → OwnR intE 3 wx w.heap.size (.slice a Y.length c) Y → OwnR valE VALT wx w.heap.size (.slice a9 D1.length c9) D1 → (∀ j, (Value.slice a9 D1.length c9).ownBlock = some j → (Value.slice a Y.length c).ownBlock ≠ some j) → Calls Try.prog 74 #[.slice a Y.length c, .slice a9 D1.length c9] wx (RefsEnd w.heap.size wx (.slice a Y.length c) Y1)) := Lib.hid (fun wx a c a9 c9 hs h1 h2 h3 => by
        rw [hY1]
        exact frefs_any w.heap.size _ _ Y D1 wx hs h1 (ownR_read h2) h3 (by omega) (by have := HLEN.out.1.1; omega))
      have HRF2 : Hid (∀ wx a c a9 c9, w.heap.size ≤ wx.heap.size → OwnR intE 3 wx w.heap.size (.slice a Y1.length c) Y1 → OwnR valE VALT wx w.heap.size (.slice a9 D2.length c9) D2 → (∀ j, (Value.slice a9 D2.length c9).ownBlock = some j → (Value.slice a Y1.length c).ownBlock ≠ some j) → Calls Try.prog 74 #[.slice a Y1.length c, .slice a9 D2.length c9] wx (RefsEnd w.heap.size wx (.slice a Y1.length c) Y2)) := Lib.hid (fun wx a c a9 c9 hs h1 h2 h3 => by
        rw [hY2]
        exact frefs_any w.heap.size _ _ Y1 D2 wx hs h1 (ownR_read h2) h3 (by have := HLEN.out.2.2.2; omega) (by have := HLEN.out.1.2; omega))
      obtain ⟨mf, mat, loc, stk⟩ := m
      simp only at c0 c1 c2 c3 ol os HMC HPK1 HPK2
      have HOL := Lib.hid ol; have HOS := Lib.hid os
      have HSD : Hid (∀ w', Below w.heap.size w w' → (w'.cell? ⟨db, 0, none⟩ = some (.int .i64 mf) ∧ w'.cell? ⟨db, 1, none⟩ = some (.int .i64 mat)) ∧ (w'.cell? ⟨db, 2, none⟩ = some (.slice xa loc.length xc) ∧ w'.cell? ⟨db, 3, none⟩ = some (.slice ya stk.length yc))) := Lib.hid (fun w' hb => by
        have hc := (bcell hb).1
        exact ⟨⟨(hc _ _ zd).trans c0, (hc _ _ zd).trans c1⟩, (hc _ _ zd).trans c2, (hc _ _ zd).trans c3⟩)
      have HNX := Lib.hid (ownR_lt HOW.out)
      have hbs := HB.out.size
      have r4 := HS4.out W1 HB.out
      have pk1 := ((bcell HB.out).1 _ _ zp).trans pk
      have zp1 := Nat.lt_of_lt_of_le zp hbs
      have zd1 := Nat.lt_of_lt_of_le zd hbs
      have sz1 := Nat.lt_of_lt_of_le sz hbs
      clear pk c0 c1 c2 c3 ol os hml hYL hS1 hS2 hD1 hD2 hY1 hY2 htm HLEN HPOS HMOF
      go_upto_region 6 with fail
      clear r4 pk1
      have HS6 : Hid (∀ w', Below W1.heap.size W1 w' → ((w'.cell? ⟨s, 0, none⟩ = some (.bool pu) ∧ w'.cell? ⟨s, 1, none⟩ = some (.slice ga gn gc)) ∧ (w'.cell? ⟨s, 2, none⟩ = some (.int .i64 pm) ∧ w'.cell? ⟨s, 3, none⟩ = some (.slice fa fn fc))) ∧ (w'.cell? ⟨db, 0, none⟩ = some (.int .i64 mf) ∧ w'.cell? ⟨db, 1, none⟩ = some (.int .i64 mat))) := Lib.hid (fun w' hb => ⟨HS0.out w' (b_call HB.out hb), (HSD.out w' (b_call HB.out hb)).1⟩)
      go_cut [8, 9] (fun x8 x9 wx => ∃ (R : Nat) (sl tl : Sl), x8 = .pointer (some ⟨R, 0, none⟩) ∧ x9 = .bool tm ∧ Hid (Blk wx R [.slice sl.a sl.n sl.c, .slice tl.a tl.n tl.c] ∧ W1.heap.size ≤ R ∧ (tm = true → ReadI wx sl.v S1 ∧ ReadI wx tl.v S2 ∧ (∀ k, sl.v.ownBlock = some k → W1.heap.size ≤ k) ∧ (∀ k, tl.v.ownBlock = some k → W1.heap.size ≤ k)) ∧ Below W1.heap.size W1 wx))
      case first =>
        refine wp_region_held_drew (S := fun w' => ((w'.cell? ⟨s, 0, none⟩ = some (.bool pu) ∧ w'.cell? ⟨s, 1, none⟩ = some (.slice ga gn gc)) ∧ (w'.cell? ⟨s, 2, none⟩ = some (.int .i64 pm) ∧ w'.cell? ⟨s, 3, none⟩ = some (.slice fa fn fc))) ∧ (w'.cell? ⟨db, 0, none⟩ = some (.int .i64 mf) ∧ w'.cell? ⟨db, 1, none⟩ = some (.int .i64 mat))) (by kernel_rfl) (HS6.out _ (b_drew (Below.refl _ _))) (fun hHeld => ?_)
        refine atI 0 ?_
        iterate 13 (refine takeN (v := ?_) rfl (by rfl) ?_ hHeld ?_; rotate_left; (focus (intro w hSw; (try dsimp only at hSw); go_simp; try (with_reducible rfl))); (try simp only [Act.put, Nat.reduceAdd, List.getElem_toArray, List.getElem_cons_succ, List.getElem_cons_zero, List.setIfInBounds_toArray, List.set_cons_zero, List.set_cons_succ]))
        refine atIo ?_
        refine wpAnyH_named ?_
        intro q0 hq0
        have HBq0 : Hid (Below W1.heap.size W1 q0) := Lib.hid (by rw [hq0]; exact b_drew (Below.refl _ _))
        clear hq0
        replace hHeld := HS6.out _ HBq0.out
        refine wpAnyH_ready (rs := [13, 17]) (by kernel_rfl) (by simp) (AllReadyH.cons rfl (fun K hK => ?_) (AllReadyH.cons rfl (fun K hK => ?_) AllReadyH.nil))
        · skip
          go_simp
          refine (HMC.out _ (b_call HB.out HBq0.out)).mono ?_
          rintro e w3 ⟨⟨sa, sn, sc⟩, ⟨ta, tn, tc⟩, rfl, hz, hb3⟩
          have HZ := Lib.hid hz
          have HB3 := Lib.hid (b_call HBq0.out hb3)
          have HQS := Lib.hid HBq0.out.size
          clear hz hb3
          refine hK.out _ _ (HS6.out _ HB3.out) (fun hHeld => ?_)
          clear hK K
          (try simp only [Act.put, List.getElem_toArray, List.getElem_cons_succ, List.getElem_cons_zero, List.setIfInBounds_toArray, List.set_cons_zero, List.set_cons_succ])
          refine atI 14 ?_
          iterate 3 (refine takeN (v := ?_) rfl (by rfl) ?_ hHeld ?_; rotate_left; (focus (intro w hSw; (try dsimp only at hSw); go_simp; try (with_reducible rfl))); (try simp only [Act.put, Nat.reduceAdd, List.getElem_toArray, List.getElem_cons_succ, List.getElem_cons_zero, List.setIfInBounds_toArray, List.set_cons_zero, List.set_cons_succ]))
          refine atIo ?_
          refine wpAnyH_ready (rs := [17]) (by kernel_rfl) (by simp) (AllReadyH.cons rfl (fun K hK => ?_) AllReadyH.nil)
          go_simp
          refine hK.out _ _ (HS6.out _ (b_alloc HB3.out _)) (fun hHeld => ?_)
          clear hK K
          (try simp only [Act.put, List.getElem_toArray, List.getElem_cons_succ, List.getElem_cons_zero, List.setIfInBounds_toArray, List.set_cons_zero, List.set_cons_succ])
          refine wpAnyH_named ?_
          intro q1 hq1
          have ZX := Lib.hid (show Blk q1 w3.heap.size [.slice none 0 0, .slice none 0 0] by rw [hq1]; exact blk_new _ _ _)
          have HBq1 : Hid (Below w3.heap.size w3 q1) := Lib.hid (by rw [hq1]; exact b_alloc (Below.refl _ _) _)
          have hR10 : W1.heap.size ≤ w3.heap.size := HB3.out.size
          obtain ⟨R, hR⟩ : ∃ R, R = w3.heap.size := ⟨_, rfl⟩
          rw [← hR] at hR10 ZX ⊢
          have HRR := Lib.hid hR
          clear hq1 hR
          replace hHeld := HS6.out _ (b_call HB3.out HBq1.out)
          obtain ⟨z0, z1, zf⟩ := blk2 ZX.out
          have zz := ZX.out.1
          refine wpAnyH_ready (rs := [18]) (by kernel_rfl) (by simp) (AllReadyH.cons rfl (fun K hK => ?_) AllReadyH.nil)
          go_simp
          refine hK.out _ _ (HS6.out _ (b_set (b_set (b_call HB3.out HBq1.out) (p := ⟨R, 0, none⟩) hR10 _) (p := ⟨R, 1, none⟩) hR10 _)) (fun hHeld => ?_)
          clear hK K
          (try simp only [Act.put, List.getElem_toArray, List.getElem_cons_succ, List.getElem_cons_zero, List.setIfInBounds_toArray, List.set_cons_zero, List.set_cons_succ])
          (refine wpAnyH_take (i := 19) (v := ?_) rfl (by kernel_rfl) (by kernel_rfl) (by kernel_rfl) (fun _ _ _ h => h) (Or.inl ⟨by rfl, ?_⟩) hHeld ?_; rotate_left; (focus (intro w hSw; (try dsimp only at hSw); go_simp; try (with_reducible rfl))); (try simp only [Act.put, List.getElem_toArray, List.getElem_cons_succ, List.getElem_cons_zero, List.setIfInBounds_toArray, List.set_cons_zero, List.set_cons_succ]))
          refine wpAnyH_done (by kernel_rfl) ?_ _
          go_wp2_with fail
          go_meet
          case rel =>
            refine ⟨R, ⟨sa, sn, sc⟩, ⟨ta, tn, tc⟩, rfl, rfl, Lib.hid ⟨blk_set (blk_set ZX.out 0 _) 1 _, hR10, fun ht => ?_, b_set (b_set (b_call HB3.out HBq1.out) (p := ⟨R, 0, none⟩) hR10 _) (p := ⟨R, 1, none⟩) hR10 _⟩⟩
            obtain ⟨g1, g2, g3, g4⟩ := HZ.out ht
            have hq := b_set (b_set HBq1.out (p := ⟨R, 0, none⟩) (by rw [HRR.out]; exact Nat.le_refl _) (.slice sa sn sc)) (p := ⟨R, 1, none⟩) (by rw [HRR.out]; exact Nat.le_refl _) (.slice ta tn tc)
            exact ⟨readI_below g1 hq, readI_below g2 hq, fun k hk => Nat.le_trans HQS.out (g3 k hk), fun k hk => Nat.le_trans HQS.out (g4 k hk)⟩
        · skip
          go_simp
          refine hK.out _ _ (HS6.out _ (b_alloc HBq0.out _)) (fun hHeld => ?_)
          clear hK K
          (try simp only [Act.put, List.getElem_toArray, List.getElem_cons_succ, List.getElem_cons_zero, List.setIfInBounds_toArray, List.set_cons_zero, List.set_cons_succ])
          refine wpAnyH_named ?_
          intro q1 hq1
          have ZX0 := Lib.hid (show Blk q1 q0.heap.size [.slice none 0 0, .slice none 0 0] by rw [hq1]; exact blk_new _ _ _)
          have HBq1 : Hid (Below W1.heap.size W1 q1) := Lib.hid (by rw [hq1]; exact b_alloc HBq0.out _)
          have hR10 : W1.heap.size ≤ q0.heap.size := HBq0.out.size
          obtain ⟨R, hR⟩ : ∃ R, R = q0.heap.size := ⟨_, rfl⟩
          rw [← hR] at hR10 ZX0 ⊢
          clear hq1 hR
          replace hHeld := HS6.out _ HBq1.out
          refine wpAnyH_ready (rs := [13]) (by kernel_rfl) (by simp) (AllReadyH.cons rfl (fun K hK => ?_) AllReadyH.nil)
          go_simp
          refine (HMC.out _ (b_call HB.out HBq1.out)).mono ?_
          rintro e w3 ⟨⟨sa, sn, sc⟩, ⟨ta, tn, tc⟩, rfl, hz, hb3⟩
          have HZ := Lib.hid hz
          have HB3 := Lib.hid (b_call HBq1.out hb3)
          have HQS := Lib.hid HBq1.out.size
          have ZX := Lib.hid (blk_below ZX0.out hb3)
          have HRN := Lib.hid ZX0.out.1
          clear hz hb3
          refine hK.out _ _ (HS6.out _ HB3.out) (fun hHeld => ?_)
          clear hK K
          (try simp only [Act.put, List.getElem_toArray, List.getElem_cons_succ, List.getElem_cons_zero, List.setIfInBounds_toArray, List.set_cons_zero, List.set_cons_succ])
          refine atI 14 ?_
          iterate 3 (refine takeN (v := ?_) rfl (by rfl) ?_ hHeld ?_; rotate_left; (focus (intro w hSw; (try dsimp only at hSw); go_simp; try (with_reducible rfl))); (try simp only [Act.put, Nat.reduceAdd, List.getElem_toArray, List.getElem_cons_succ, List.getElem_cons_zero, List.setIfInBounds_toArray, List.set_cons_zero, List.set_cons_succ]))
          refine atIo ?_
          obtain ⟨z0, z1, zf⟩ := blk2 ZX.out
          have zz := ZX.out.1
          refine wpAnyH_ready (rs := [18]) (by kernel_rfl) (by simp) (AllReadyH.cons rfl (fun K hK => ?_) AllReadyH.nil)
          go_simp
          refine hK.out _ _ (HS6.out _ (b_set (b_set HB3.out (p := ⟨R, 0, none⟩) hR10 _) (p := ⟨R, 1, none⟩) hR10 _)) (fun hHeld => ?_)
          clear hK K
          (try simp only [Act.put, List.getElem_toArray, List.getElem_cons_succ, List.getElem_cons_zero, List.setIfInBounds_toArray, List.set_cons_zero, List.set_cons_succ])
          (refine wpAnyH_take (i := 19) (v := ?_) rfl (by kernel_rfl) (by kernel_rfl) (by kernel_rfl) (fun _ _ _ h => h) (Or.inl ⟨by rfl, ?_⟩) hHeld ?_; rotate_left; (focus (intro w hSw; (try dsimp only at hSw); go_simp; try (with_reducible rfl))); (try simp only [Act.put, List.getElem_toArray, List.getElem_cons_succ, List.getElem_cons_zero, List.setIfInBounds_toArray, List.set_cons_zero, List.set_cons_succ]))
          refine wpAnyH_done (by kernel_rfl) ?_ _
          go_wp2_with fail
          go_meet
          case rel =>
            refine ⟨R, ⟨sa, sn, sc⟩, ⟨ta, tn, tc⟩, rfl, rfl, Lib.hid ⟨blk_set (blk_set ZX.out 0 _) 1 _, hR10, fun ht => ?_, b_set (b_set HB3.out (p := ⟨R, 0, none⟩) hR10 _) (p := ⟨R, 1, none⟩) hR10 _⟩⟩
            obtain ⟨g1, g2, g3, g4⟩ := HZ.out ht
            have hgx : w3.grownBy ((w3.setCell ⟨R, 0, none⟩ (.slice sa sn sc)).setCell ⟨R, 1, none⟩ (.slice ta tn tc)) (some R) := gb_set (gb_set (gb_refl _ (some R)) _ _ _) _ _ _
            exact ⟨readI_kept g1 (fun b hb hlt => hgx.block b hlt (fun e => by injection e with e; have := g3 b hb; have := HRN.out; omega)) hgx.size, readI_kept g2 (fun b hb hlt => hgx.block b hlt (fun e => by injection e with e; have := g4 b hb; have := HRN.out; omega)) hgx.size, fun k hk => Nat.le_trans HQS.out (g3 k hk), fun k hk => Nat.le_trans HQS.out (g4 k hk)⟩
      case rest =>
      obtain ⟨R, ⟨sa, sn, sc⟩, ⟨ta, tn, tc⟩, rfl, rfl, hcut⟩ := hcut
      obtain ⟨W2, hW2⟩ : ∃ x, x = wc := ⟨_, rfl⟩
      subst hW2
      obtain ⟨hx, hR, hz, hb⟩ := hcut.out
      have HX := Lib.hid hx; have HR := Lib.hid hR; have HZ := Lib.hid hz; have HB12 := Lib.hid hb
      clear hx hR hz hb hcut HS6
      have HB2 := Lib.hid (b_call HB.out HB12.out)
      have HO2 := Lib.hid (ownR_below HOW.out HB12.out)
      cases tm with
      | false =>
        go_wp2_with fail
        go_roundw
        case rel => exact ⟨k + 1, by omega, by first | rfl | go_num, ⟨a', Y.length, c', Y, rfl, rfl, Lib.hid (by rw [HT.out, HONE.out, if_neg (by decide), List.append_nil, HEQ.out]), HO2⟩, HB2⟩
        case measure => simp [intOf]; omega
      | true =>
        obtain ⟨g1, g2, g3, g4⟩ := HZ.out rfl
        have G1 := Lib.hid g1; have G2 := Lib.hid g2; have G4 := Lib.hid g4
        clear g1 g2 g3 g4
        go_upto_region 8 with fail
        have HS8 : Hid (∀ w', Below w.heap.size w w' → Blk w' R [.slice sa sn sc, .slice ta tn tc] → (w'.cell? ⟨db, 2, none⟩ = some (.slice xa loc.length xc) ∧ w'.cell? ⟨db, 3, none⟩ = some (.slice ya stk.length yc)) ∧ (w'.cell? ⟨R, 0, none⟩ = some (.slice sa sn sc) ∧ w'.cell? ⟨R, 1, none⟩ = some (.slice ta tn tc))) := Lib.hid (fun w' hb hx => by
          obtain ⟨x0, x1, _⟩ := blk2 hx
          exact ⟨(HSD.out w' hb).2, x0, x1⟩)
        refine wp_region_held_drew (S := fun w' => (w'.cell? ⟨db, 2, none⟩ = some (.slice xa loc.length xc) ∧ w'.cell? ⟨db, 3, none⟩ = some (.slice ya stk.length yc)) ∧ (w'.cell? ⟨R, 0, none⟩ = some (.slice sa sn sc) ∧ w'.cell? ⟨R, 1, none⟩ = some (.slice ta tn tc))) (by kernel_rfl) (HS8.out _ (b_drew HB2.out) (blk_drew HX.out)) (fun hHeld => ?_)
        refine atI 0 ?_
        iterate 7 (refine takeN (v := ?_) rfl (by rfl) ?_ hHeld ?_; rotate_left; (focus (intro w hSw; (try dsimp only at hSw); go_simp; try (with_reducible rfl))); (try simp only [Act.put, Nat.reduceAdd, List.getElem_toArray, List.getElem_cons_succ, List.getElem_cons_zero, List.setIfInBounds_toArray, List.set_cons_zero, List.set_cons_succ]))
        refine atIo ?_
        refine atI 9 ?_
        iterate 6 (refine takeN (v := ?_) rfl (by rfl) ?_ hHeld ?_; rotate_left; (focus (intro w hSw; (try dsimp only at hSw); go_simp; try (with_reducible rfl))); (try simp only [Act.put, Nat.reduceAdd, List.getElem_toArray, List.getElem_cons_succ, List.getElem_cons_zero, List.setIfInBounds_toArray, List.set_cons_zero, List.set_cons_succ]))
        refine atIo ?_
        refine wpAnyH_named ?_
        intro q0 hq0
        have HBq : Hid (Below W2.heap.size W2 q0) := Lib.hid (by rw [hq0]; exact b_drew (Below.refl _ _))
        clear hq0
        have HBq0 := Lib.hid (b_call HB2.out HBq.out)
        have HXq0 := Lib.hid (blk_below HX.out HBq.out)
        replace hHeld := HS8.out _ HBq0.out HXq0.out
        refine wpAnyH_ready (rs := [7]) (by kernel_rfl) (by simp) (AllReadyH.cons rfl (fun K hK => ?_) AllReadyH.nil)
        go_simp
        refine (HPK1.out _ _ _ _ _ _ (readR_below (ownR_read HOL.out) HBq0.out) (readI_below G1.out HBq.out)).mono ?_
        rintro e w5 ⟨a5, c5, rfl, ho5, hb5⟩
        have HB25 := Lib.hid (b_call HBq.out hb5)
        have HB5 := Lib.hid (b_call HBq0.out hb5)
        have HX5 := Lib.hid (blk_below HXq0.out hb5)
        have HP5 := Lib.hid (show OwnR valE VALT w5 w.heap.size (.slice a5 D1.length c5) D1 from ownR_mono ho5 HBq0.out.size)
        have HN5 := Lib.hid (fun j hj => (ownR_lt ho5 j hj).1)
        have HY5 := Lib.hid (ownR_below HO2.out HB25.out)
        have HQ0 : Hid (W1.heap.size ≤ q0.heap.size) := Lib.hid (Nat.le_trans HB12.out.size HBq.out.size)
        clear ho5 hb5
        refine hK.out _ _ (HS8.out _ HB5.out HX5.out) (fun hHeld => ?_)
        clear hK K
        (try simp only [Act.put, List.getElem_toArray, List.getElem_cons_succ, List.getElem_cons_zero, List.setIfInBounds_toArray, List.set_cons_zero, List.set_cons_succ])
        refine wpAnyH_ready (rs := [8]) (by kernel_rfl) (by simp) (AllReadyH.cons rfl (fun K hK => ?_) AllReadyH.nil)
        go_simp
        refine (HRF1.out _ _ _ _ _ HB5.out.size HY5.out HP5.out (fun j hj hu => by have q1 := HN5.out j hj; have q2 := (HNX.out j hu).2; have := HQ0.out; omega)).mono ?_
        rintro e w6 ⟨a6, c6, rfl, ho6, hg6, hn6⟩
        have HO6 := Lib.hid ho6
        have HB6 : Hid (Below w.heap.size w w6) := Lib.hid (b_gx HB5.out hg6 (fun j hj => (HNX.out j hj).1))
        have HX6 := Lib.hid (blk_gx HX5.out hg6 (fun q => by have := (HNX.out _ q).2; have := HR.out; omega))
        have HG26 : Hid (GrowX W2 w6 (fun j => (Value.slice a' Y.length c').ownBlock = some j)) := Lib.hid (gx_pre HB25.out hg6)
        have HN6 := Lib.hid hn6
        have HWS : Hid (W1.heap.size ≤ w5.heap.size ∧ R < w5.heap.size) := Lib.hid ⟨Nat.le_trans HB12.out.size HB25.out.size, HX5.out.1⟩
        have G26 : Hid (ReadI w6 (.slice ta tn tc) S2) := Lib.hid (readI_kept G2.out (fun b hb hlt => HG26.out.block b hlt (fun q => by have := (HNX.out b q).2; have := G4.out b hb; omega)) HG26.out.size)
        clear ho6 hg6 hn6
        refine hK.out _ _ (HS8.out _ HB6.out HX6.out) (fun hHeld => ?_)
        clear hK K
        (try simp only [Act.put, List.getElem_toArray, List.getElem_cons_succ, List.getElem_cons_zero, List.setIfInBounds_toArray, List.set_cons_zero, List.set_cons_succ])
        refine wpAnyH_ready (rs := [15]) (by kernel_rfl) (by simp) (AllReadyH.cons rfl (fun K hK => ?_) AllReadyH.nil)
        go_simp
        refine (HPK2.out _ _ _ _ _ _ (readR_below (ownR_read HOS.out) HB6.out) G26.out).mono ?_
        rintro e w7 ⟨a7, c7, rfl, ho7, hb7⟩
        have HB7 := Lib.hid (b_call HB6.out hb7)
        have HX7 := Lib.hid (blk_below HX6.out hb7)
        have HP7 := Lib.hid (show OwnR valE VALT w7 w.heap.size (.slice a7 D2.length c7) D2 from ownR_mono ho7 HB6.out.size)
        have HN7 := Lib.hid (fun j hj => (ownR_lt ho7 j hj).1)
        have HO7 := Lib.hid (ownR_below HO6.out hb7)
        have HL6 := Lib.hid (ownR_lt HO6.out)
        clear ho7 hb7
        refine hK.out _ _ (HS8.out _ HB7.out HX7.out) (fun hHeld => ?_)
        clear hK K
        (try simp only [Act.put, List.getElem_toArray, List.getElem_cons_succ, List.getElem_cons_zero, List.setIfInBounds_toArray, List.set_cons_zero, List.set_cons_succ])
        refine wpAnyH_ready (rs := [16]) (by kernel_rfl) (by simp) (AllReadyH.cons rfl (fun K hK => ?_) AllReadyH.nil)
        go_simp
        refine (HRF2.out _ _ _ _ _ HB7.out.size HO7.out HP7.out (fun j hj hu => by have q1 := HN7.out j hj; have q2 := (HL6.out j hu).2; omega)).mono ?_
        rintro e w8 ⟨a8, c8, rfl, ho8, hg8, hn8⟩
        have HO8 := Lib.hid ho8
        have HB8 : Hid (Below w.heap.size w w8) := Lib.hid (b_gx HB7.out hg8 (fun j hj => (HL6.out j hj).1))
        have HX8 := Lib.hid (blk_gx HX7.out hg8 (fun q => by
          rcases HN6.out _ q with z | z
          · have := (HNX.out _ z).2; have := HR.out; omega
          · have := HWS.out.2; omega))
        clear ho8 hg8 hn8
        refine hK.out _ _ (HS8.out _ HB8.out HX8.out) (fun hHeld => ?_)
        clear hK K
        (try simp only [Act.put, List.getElem_toArray, List.getElem_cons_succ, List.getElem_cons_zero, List.setIfInBounds_toArray, List.set_cons_zero, List.set_cons_succ])
        (refine wpAnyH_take (i := 17) (v := ?_) rfl (by kernel_rfl) (by kernel_rfl) (by kernel_rfl) (fun _ _ _ h => h) (Or.inl ⟨by rfl, ?_⟩) hHeld ?_; rotate_left; (focus (intro w hSw; (try dsimp only at hSw); go_simp; try (with_reducible rfl))); (try simp only [Act.put, List.getElem_toArray, List.getElem_cons_succ, List.getElem_cons_zero, List.setIfInBounds_toArray, List.set_cons_zero, List.set_cons_succ]))
        refine wpAnyH_done (by kernel_rfl) ?_ _
        go_wp2_with fail
        go_roundw
        case rel => exact ⟨k + 1, by omega, by first | rfl | go_num, ⟨a8, Y2.length, c8, Y2, rfl, rfl, Lib.hid (by rw [HT.out, HONE.out, if_pos rfl, HE2.out, HE1.out, HEQ.out, List.append_assoc]), HO8⟩, HB8⟩
        case measure => simp [intOf]; omega
    · have k1 : ¬ ((k : Int) < L.length) := by omega
      have HFI : Hid (Y = mapsAll P Fx L) := Lib.hid (by rw [HEQ.out, List.take_of_length_le (by omega)])
      go_wp2_with fail
      go_ret
      show FRefsEnd w (mapsAll P Fx L) (.returned (.slice a' Y.length c')) W1
      rw [← HFI.out]
      exact ⟨a', c', rfl, readR_I (ownR_read HOW.out), HB.out⟩
end
end Go.Proofs.Ytdmidnmciaediaa
