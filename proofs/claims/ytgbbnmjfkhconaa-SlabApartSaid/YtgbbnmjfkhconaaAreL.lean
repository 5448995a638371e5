/- Layer 3's arenas: what they are in memory; words and bytes of a list; 'copy' into a block that is known whole. No conditions beside those stated. -/
import Derived.Test.YtgbbnmjfkhconaaRowN
import Derived.Test.YtgbbnmjfkhconaaNum
import Derived.Deep.DeepCutAuto
import Derived.Deep.CutRange
namespace Go.Proofs.Ytgbbnmjfkhconaa
open Go.RowKit
set_option linter.unusedVariables false
set_option linter.unusedSimpArgs false
def tp (b : Nat) : Value := .pointer (some ⟨b, 0, none⟩)
def byE : Elt Int where
  cells := fun x => [.int .u8 x]
  size := 1
  pos := by decide
  len := fun _ => rfl
  one := fun r u hu => by
    simp only [List.mem_cons, List.not_mem_nil, or_false] at hu
    rw [hu]; rfl
theorem row_byts : ∀ L : List Int, byE.row L = byts L
  | [] => rfl
  | x :: l => by rw [row_cons, row_byts l]; rfl
theorem rowByte : IsRow Try.prog 31 5 1 1 (.int .u8 0) := ⟨Try.underlying31, by kernel_rfl, by rfl⟩
theorem readB_R {w : World} {v : Value} {xs : List Int} (h : ReadB w v xs) : ReadR byE w v xs := by
  obtain ⟨a, cap, rfl, h1, h2, h3, h4⟩ := h
  refine ⟨a, cap, rfl, h1, h2, h3, fun hp => ?_⟩
  obtain ⟨b, o, rfl, h5, h6⟩ := h4 hp
  refine ⟨b, o, rfl, h5, fun k hk j hj => ?_⟩
  have hj0 : j = 0 := by have : byE.size = 1 := rfl; omega
  subst hj0
  have := h6 k hk
  rw [show k * byE.size + 0 = k by show k * 1 + 0 = k; omega, this, List.getD_eq_getElem?_getD, List.getElem?_eq_getElem hk]; rfl
theorem readR_B {w : World} {v : Value} {xs : List Int} (h : ReadR byE w v xs) : ReadB w v xs := by
  obtain ⟨a, cap, rfl, h1, h2, h3, h4⟩ := h
  refine ⟨a, cap, rfl, h1, h2, h3, fun hp => ?_⟩
  obtain ⟨b, o, rfl, h5, h6⟩ := h4 hp
  refine ⟨b, o, rfl, h5, fun k hk => ?_⟩
  have := h6 k hk 0 (by decide)
  rw [show k * byE.size + 0 = k by show k * 1 + 0 = k; omega] at this
  rw [this, List.getD_eq_getElem?_getD, List.getElem?_eq_getElem hk]; rfl
theorem blkB_at {w : World} {g : Nat} {L : List Int} (h : Blk w g (byts L)) (k : Nat) (hk : k < L.length) : w.cell? ⟨g, k, none⟩ = some (.int .u8 (L.getD k 0)) := by
  have := h.2.1 k (by rw [byts_length]; exact hk)
  rw [this]; unfold byts
  rw [List.getElem_map, List.getD_eq_getElem?_getD, List.getElem?_eq_getElem hk]; rfl
theorem blkB_lay {w : World} {g k : Nat} {L M : List Int} (h : Blk w g (byts L)) (hk : k + M.length ≤ L.length) : Blk (w.setCells g k (byts M)) g (byts (lay L k M)) := by
  have q := blk_lay byE (k := k) (M := M) (by rw [row_byts]; exact h) hk
  rw [row_byts, row_byts, show k * byE.size = k by show k * 1 = k; omega] at q
  exact q
theorem blkB_set {w : World} {g k : Nat} {L : List Int} (h : Blk w g (byts L)) (hk : k < L.length) (x : Int) : Blk (w.setCell ⟨g, k, none⟩ (.int .u8 x)) g (byts (L.set k x)) := by
  have q := blkB_lay (M := [x]) (k := k) h (by simp; omega)
  rwa [lay_one _ _ _ hk] at q
/-- A part of a row, wherever it begins. -/
theorem readB_sub {w : World} {g cap k n : Nat} {L : List Int} (h : Blk w g (byts L)) (h1 : L.length ≤ cap) (h2 : cap ≤ maxLen) (hk : k + n ≤ L.length) {p : Option Addr} {c : Nat} (hp : 0 < n → p = some ⟨g, k, none⟩) (hc : c = cap - k) (hpn : p ≠ none) : ReadB w (.slice p n c) ((L.drop k).take n) := by
  subst hc
  have e : ((L.drop k).take n).length = n := by simp; omega
  refine ⟨p, cap - k, by rw [e], by omega, by omega, fun hn => absurd hn hpn, fun hpos => ?_⟩
  rw [e] at hpos
  refine ⟨g, k, hp hpos, h.1, fun i hi => ?_⟩
  rw [e] at hi
  rw [blkB_at h (k + i) (by omega)]
  congr 2
  rw [List.getD_eq_getElem?_getD, List.getD_eq_getElem?_getD, List.getElem?_take_of_lt hi, List.getElem?_drop]
theorem readB_whole {w : World} {g cap : Nat} {L : List Int} (h : Blk w g (byts L)) (h1 : L.length ≤ cap) (h2 : cap ≤ maxLen) : ReadB w (.slice (some ⟨g, 0, none⟩) L.length cap) L := by
  have q := readB_sub (k := 0) (n := L.length) (p := some ⟨g, 0, none⟩) (c := cap) h h1 h2 (by omega) (fun _ => rfl) (by omega) (by intro e; cases e)
  simpa using q
section
variable {P : Program}
/-- 'copy' into a block that is known whole. -/
theorem wp_copyB {o : Oper} {a : Act} {K : Act → World → Prop} {Q : Exit → Act → World → Prop} {w : World} (d s : Operand) (dT sT E : TypeId)
    (ho : o.op = .call { callee := .builtin .copy, args := #[d, s], argTypes := #[dT, sT] }) (hu : P.underlying dT = some (.slice E)) (hsz : (P.info? E).map (·.size) = some 1)
    (g off dLen dcap : Nat) (dp : Option Addr) (L M : List Int) (u : Value) (hd : a.eval d = .slice dp dLen dcap) (hdp : 0 < M.length → dp = some ⟨g, off, none⟩) (hlen : M.length ≤ dLen) (hs : a.eval s = u) (hr : ReadB w u M) (hB : Blk w g (byts L)) (hfit : off + M.length ≤ L.length)
    (h : K (a.put o.dst (goInt M.length)) (w.setCells g off (byts M))) : Oper.wp P o a w K Q := by
  obtain ⟨sp, scap, rfl, h1, h2, h3, h4⟩ := hr
  rcases Nat.eq_zero_or_pos M.length with q | q
  · have hM : M = [] := List.eq_nil_of_length_eq_zero q
    subst hM
    have hrun := run_copy_none (P := P) w dT sT o.type E dp sp dLen dcap 0 scap hu hsz (by simp)
    unfold Oper.wp
    simp [execOp, ho, resolve, invoke, builtin, hd, hs, hrun, Result.andThen]
    exact h
  · obtain ⟨b, off2, rfl, _, h6⟩ := h4 q
    obtain rfl := hdp q
    have hrun := run_copy_cells (P := P) w dT sT o.type E g off dLen dcap ⟨b, off2, none⟩ M.length scap (byts M) hu hsz (by rw [byts_length]; exact (Nat.min_eq_left hlen).symm) (fun j v hj => by
      have hlt : j < M.length := by
        rcases Nat.lt_or_ge j M.length with z | z
        · exact z
        · rw [List.getElem?_eq_none (by rw [byts_length]; exact z)] at hj; cases hj
      rw [Addr.add_lit, h6 j hlt, ← hj]
      unfold byts
      rw [List.getElem?_map, List.getD_eq_getElem?_getD, List.getElem?_eq_getElem hlt]; rfl) (fun j hj => by
      rw [byts_length] at hj
      rw [hB.2.1 (off + j) (by rw [byts_length]; omega)]; rfl) (fun j hj => hB.2.2 _) (one_byts M)
    unfold Oper.wp
    rw [byts_length] at hrun
    simp [execOp, ho, resolve, invoke, builtin, hd, hs, hrun, Result.andThen]
    exact h
theorem copyB {ops : Array Oper} {rest : List Oper} {o : Oper} {a : Act} {Q : Exit → Act → World → Prop} {w : World} (hgd : o.guard = none) (d s : Operand) (dT sT E : TypeId)
    (ho : o.op = .call { callee := .builtin .copy, args := #[d, s], argTypes := #[dT, sT] }) (hu : P.underlying dT = some (.slice E)) (hsz : (P.info? E).map (·.size) = some 1)
    (g off dLen dcap : Nat) (dp : Option Addr) (L M : List Int) (u : Value) (hd : a.eval d = .slice dp dLen dcap) (hdp : 0 < M.length → dp = some ⟨g, off, none⟩) (hlen : M.length ≤ dLen) (hs : a.eval s = u) (hr : ReadB w u M) (hB : Blk w g (byts L)) (hfit : off + M.length ≤ L.length)
    (h : wpList P ops Q rest (a.put o.dst (goInt M.length)) (w.setCells g off (byts M))) : wpList P ops Q (o :: rest) a w :=
  wpList_plain hgd fun _ hK => wp_copyB d s dT sT E ho hu hsz g off dLen dcap dp L M u hd hdp hlen hs hr hB hfit (hK _ _ h)
theorem step_copyB {ops : Array Oper} {o : Oper} {a : Act} {K : Act → World → Prop} {Q : Exit → Act → World → Prop} {G : Prop} {w : World} (hgd : o.guard = none) (d s : Operand) (dT sT E : TypeId)
    (ho : o.op = .call { callee := .builtin .copy, args := #[d, s], argTypes := #[dT, sT] }) (hu : P.underlying dT = some (.slice E)) (hsz : (P.info? E).map (·.size) = some 1)
    (g off dLen dcap : Nat) (dp : Option Addr) (L M : List Int) (u : Value) (hd : a.eval d = .slice dp dLen dcap) (hdp : 0 < M.length → dp = some ⟨g, off, none⟩) (hlen : M.length ≤ dLen) (hs : a.eval s = u) (hr : ReadB w u M) (hB : Blk w g (byts L)) (hfit : off + M.length ≤ L.length)
    (h : K (a.put o.dst (goInt M.length)) (w.setCells g off (byts M))) : if Region.wanted o (yielded ops a.tmps) = true then Oper.wp P o a w K Q else G := by
  rw [if_pos (by simp [Region.wanted, hgd])]
  exact wp_copyB d s dT sT E ho hu hsz g off dLen dcap dp L M u hd hdp hlen hs hr hB hfit h
end
theorem szByte : (Try.prog.info? 5).map (·.size) = some 1 := by kernel_rfl
/-- An arena at block b; its bytes lie in block g. -/
structure AreAt (w : World) (b g cap : Nat) (L : List Int) : Prop where
  hd : Blk w b [.slice (some ⟨g, 0, none⟩) L.length cap]
  rw : Blk w g (byts L)
  ne : b ≠ g
  le : L.length ≤ cap
  cp : cap ≤ maxLen
  by_ : IsBytes L
  mx : L.length ≤ 65536
theorem are_below {w w' : World} {b g cap : Nat} {L : List Int} (h : AreAt w b g cap L) (hb : Below w.heap.size w w') : AreAt w' b g cap L := ⟨blk_below h.hd hb, blk_below h.rw hb, h.ne, h.le, h.cp, h.by_, h.mx⟩
theorem are_grown {w w' : World} {b g cap : Nat} {L : List Int} {r : Option Nat} (h : AreAt w b g cap L) (hg : w.grownBy w' r) (h1 : some b ≠ r) (h2 : some g ≠ r) : AreAt w' b g cap L := ⟨blk_grown h.hd hg h1, blk_grown h.rw hg h2, h.ne, h.le, h.cp, h.by_, h.mx⟩
theorem isBytes_lay {L M : List Int} (h : IsBytes L) (h' : IsBytes M) (k : Nat) : IsBytes (lay L k M) := fun x hx => by
  unfold lay at hx
  rcases List.mem_append.1 hx with q | q
  · rcases List.mem_append.1 q with q | q
    · exact h x (List.mem_of_mem_take q)
    · exact h' x q
  · exact h x (List.mem_of_mem_drop q)
theorem blk_setsOther {w : World} {b g : Nat} {vs : List Value} (h : Blk w b vs) (hne : b ≠ g) (o : Nat) (us : List Value) : Blk (w.setCells g o us) b vs := blk_grown h (gb_sets us o (gb_refl w (some g))) (by intro e; injection e with e; exact hne e)
theorem are_lay {w : World} {b g cap : Nat} {L : List Int} (h : AreAt w b g cap L) {k : Nat} {M : List Int} (hk : k + M.length ≤ L.length) (hM : IsBytes M) : AreAt (w.setCells g k (byts M)) b g cap (lay L k M) := by
  have e := lay_length hk
  exact ⟨by rw [e]; exact blk_setsOther h.hd h.ne _ _, blkB_lay h.rw hk, h.ne, by rw [e]; exact h.le, h.cp, isBytes_lay h.by_ hM k, by rw [e]; exact h.mx⟩
theorem are_lay_g {w : World} {g k : Nat} {M : List Int} : w.grownBy (w.setCells g k (byts M)) (some g) := gb_sets _ _ (gb_refl w (some g))
/-- The bounds, and the errors. -/
def inE (len : Nat) (a n : Int) : Int := if 0 ≤ a ∧ 0 ≤ n ∧ n ≤ len ∧ a ≤ len - n then 0 else 3
def wordE (len : Nat) (a : Int) : Int := if inE len a 8 = 0 then (if a % 8 = 0 then 0 else 1) else 3
theorem inE_cases (len : Nat) (a n : Int) : (inE len a n = 3 ∧ ¬ (0 ≤ a ∧ 0 ≤ n ∧ n ≤ len ∧ a ≤ len - n)) ∨ (inE len a n = 0 ∧ ∃ k m : Nat, a = k ∧ n = m ∧ k + m ≤ len) := by
  unfold inE
  by_cases h : 0 ≤ a ∧ 0 ≤ n ∧ n ≤ len ∧ a ≤ len - n
  · rw [if_pos h]
    exact Or.inr ⟨rfl, a.toNat, n.toNat, by omega, by omega, by omega⟩
  · rw [if_neg h]
    exact Or.inl ⟨rfl, h⟩
theorem inE_ok {len k m : Nat} (h : k + m ≤ len) : inE len k m = 0 := if_pos (by omega)
theorem wordE_cases (len : Nat) (a : Int) : (wordE len a = 3 ∧ inE len a 8 = 3) ∨ (wordE len a = 1 ∧ inE len a 8 = 0 ∧ 0 ≤ a ∧ a % 8 ≠ 0) ∨ (wordE len a = 0 ∧ inE len a 8 = 0 ∧ ∃ k : Nat, a = k ∧ k + 8 ≤ len ∧ k % 8 = 0) := by
  unfold wordE
  rcases inE_cases len a 8 with ⟨h, _⟩ | ⟨h, k, m, rfl, hm, hk⟩
  · rw [if_neg (by omega)]; exact Or.inl ⟨rfl, h⟩
  · rw [if_pos h]
    by_cases q : (k : Int) % 8 = 0
    · rw [if_pos q]; exact Or.inr (Or.inr ⟨rfl, h, k, rfl, by omega, by omega⟩)
    · rw [if_neg q]; exact Or.inr (Or.inl ⟨rfl, h, by omega, q⟩)
def getW (L : List Int) (k : Nat) : Int := getL ((L.drop k).take 8)
def setW (L : List Int) (a v : Int) : List Int := if wordE L.length a = 0 then lay L a.toNat (putL 8 v) else L
def storeL (L : List Int) (a : Int) (M : List Int) : List Int := if inE L.length a M.length = 0 then lay L a.toNat M else L
def fillL (L : List Int) (a n c : Int) : List Int := if inE L.length a n = 0 then lay L a.toNat (List.replicate n.toNat c) else L
def loadL (L : List Int) (a n : Int) : List Int := if inE L.length a n = 0 then (L.drop a.toNat).take n.toNat else []
theorem isBytes_putL (n : Nat) (v : Int) : IsBytes (putL n v) := fun x hx => by
  unfold putL at hx
  obtain ⟨k, _, rfl⟩ := List.mem_map.1 hx
  unfold byteAt; omega
theorem isBytes_rep (n : Nat) {c : Int} (h : 0 ≤ c ∧ c < 256) : IsBytes (List.replicate n c) := fun x hx => by
  rw [(List.mem_replicate.1 hx).2]; exact h
theorem setW_length (L : List Int) (a v : Int) : (setW L a v).length = L.length := by
  unfold setW
  rcases wordE_cases L.length a with ⟨h, _⟩ | ⟨h, _⟩ | ⟨h, _, k, rfl, hk, _⟩
  · rw [if_neg (by omega)]
  · rw [if_neg (by omega)]
  · rw [if_pos h]; exact lay_length (by rw [putL_length]; omega)
theorem storeL_length (L : List Int) (a : Int) (M : List Int) : (storeL L a M).length = L.length := by
  unfold storeL
  rcases inE_cases L.length a M.length with ⟨h, _⟩ | ⟨h, k, m, rfl, hm, hk⟩
  · rw [if_neg (by omega)]
  · rw [if_pos h]; exact lay_length (by omega)
theorem fillL_length (L : List Int) (a n c : Int) : (fillL L a n c).length = L.length := by
  unfold fillL
  rcases inE_cases L.length a n with ⟨h, _⟩ | ⟨h, k, m, rfl, rfl, hk⟩
  · rw [if_neg (by omega)]
  · rw [if_pos h]; exact lay_length (by rw [List.length_replicate]; omega)
theorem lay_rep_step {L : List Int} {k m : Nat} (h : k + m < L.length) (x : Int) : (lay L k (List.replicate m x)).set (k + m) x = lay L k (List.replicate (m + 1) x) := by
  have hl : (lay L k (List.replicate m x)).length = L.length := lay_length (by rw [List.length_replicate]; omega)
  apply List.ext_getElem?
  intro i
  have hl2 : (lay L k (List.replicate (m + 1) x)).length = L.length := lay_length (by rw [List.length_replicate]; omega)
  rcases Nat.lt_or_ge i L.length with q | q
  · have g1 := lay_get (L := L) (M := List.replicate m x) (k := k) (by rw [List.length_replicate]; omega) i 0
    have g2 := lay_get (L := L) (M := List.replicate (m + 1) x) (k := k) (by rw [List.length_replicate]; omega) i 0
    rw [List.length_replicate] at g1 g2
    have e2 : (lay L k (List.replicate (m + 1) x))[i]? = some ((lay L k (List.replicate (m + 1) x)).getD i 0) := by
      rw [List.getD_eq_getElem?_getD, List.getElem?_eq_getElem (by omega)]; rfl
    rw [e2, g2]
    by_cases z : i = k + m
    · subst z
      rw [List.getElem?_set_self (by omega), if_pos (by omega), List.getD_eq_getElem?_getD, List.getElem?_replicate, if_pos (by omega)]; rfl
    · rw [List.getElem?_set_ne (by omega)]
      have e1 : (lay L k (List.replicate m x))[i]? = some ((lay L k (List.replicate m x)).getD i 0) := by
        rw [List.getD_eq_getElem?_getD, List.getElem?_eq_getElem (by omega)]; rfl
      rw [e1, g1]
      by_cases y : k ≤ i ∧ i < k + m
      · rw [if_pos y, if_pos (by omega), List.getD_eq_getElem?_getD, List.getD_eq_getElem?_getD, List.getElem?_replicate, List.getElem?_replicate, if_pos (by omega), if_pos (by omega)]
      · rw [if_neg y, if_neg (by omega)]
  · rw [List.getElem?_eq_none (by rw [List.length_set]; omega), List.getElem?_eq_none (by omega)]
/-- What a maker of arenas hands back. -/
def NewAre (w : World) (L : List Int) (e : Ending) (w' : World) : Prop := ∃ b g cap, e = .returned (tp b) ∧ AreAt w' b g cap L ∧ w.heap.size ≤ b ∧ w.heap.size ≤ g ∧ Below w.heap.size w w'
end Go.Proofs.Ytgbbnmjfkhconaa
