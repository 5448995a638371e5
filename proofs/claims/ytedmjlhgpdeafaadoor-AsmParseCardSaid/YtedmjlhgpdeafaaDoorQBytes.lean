/- Slices of bytes: read as lists, or owned by the call. No conditions beside those stated. Numbers as bytes: num.Put, num.Get and the document's own. Conditions: those stated. Layer 24: shapes, words, and what they are told; ours and the document's. No conditions. Layer 24: more contracts: ours and the document's own words. No conditions. -/
import Derived.Test.YtedmjlhgpdeafaaDoorProg
import Derived.Test.YtedmjlhgpdeafaaDoorQBase
import Derived.OwnWalk
import Derived.Deep.QuietTactic
import Derived.BigQuiet
import Derived.StillTailTactics
import Derived.Laws.RangeString
import Derived.Laws.DeepStrings4
import Derived.Deep.LoopGhost
import Derived.Deep.DeepCutAuto
import Derived.Deep.CutBlock
namespace Go.Proofs.YtedmjlhgpdeafaaDoor
section
open Go.RowKit
set_option linter.unusedVariables false
set_option linter.unusedSimpArgs false
theorem Tryd.infoByte : (Tryd.prog.info? 5).map (fun i => (i.zero, i.size, i.bytes)) = some (some (.int .u8 0), 1, 1) := by kernel_rfl
def byts (xs : List Int) : List Value := xs.map (Value.int .u8)
theorem byts_length (xs : List Int) : (byts xs).length = xs.length := by unfold byts; simp
/-- A slice value that the call itself has made, from block B on. -/
def OwnB (w : World) (B : Nat) (v : Value) (xs : List Int) : Prop := w.ownsRow B 5 1 v xs.length (byts xs)
def RetOwnB (w : World) (xs : List Int) (e : Ending) (w' : World) : Prop := ∃ v, e = .returned v ∧ OwnB w' w.heap.size v xs ∧ Below w.heap.size w w'
/-- A slice value that reads as a list. -/
def ReadB (w : World) (v : Value) (xs : List Int) : Prop :=
  ∃ a cap, v = .slice a xs.length cap ∧ xs.length ≤ cap ∧ cap ≤ maxLen ∧ (a = none → cap = 0) ∧ (0 < xs.length → ∃ b o, a = some ⟨b, o, none⟩ ∧ b < w.heap.size ∧ ∀ i, i < xs.length → w.cell? ⟨b, o + i, none⟩ = some (.int .u8 (xs.getD i 0)))
theorem readB_mk {w : World} {b o cap : Nat} {xs : List Int} (h1 : xs.length ≤ cap) (h2 : cap ≤ maxLen) (h3 : b < w.heap.size) (h4 : ∀ i, i < xs.length → w.cell? ⟨b, o + i, none⟩ = some (.int .u8 (xs.getD i 0))) : ReadB w (.slice (some ⟨b, o, none⟩) xs.length cap) xs :=
  ⟨_, cap, rfl, h1, h2, fun h => (by cases h), fun _ => ⟨b, o, rfl, h3, h4⟩⟩
theorem readB_nil (w : World) : ReadB w (.slice none 0 0) [] := ⟨none, 0, rfl, Nat.le_refl _, Nat.zero_le _, fun _ => rfl, fun h => by simp at h⟩
theorem ownB_nil (w : World) (B : Nat) : OwnB w B (.slice none 0 0) [] := World.ownsRow_nil _ _ _ _
theorem ownB_read {w : World} {B : Nat} {v : Value} {xs : List Int} (h : OwnB w B v xs) : ReadB w v xs := by
  obtain ⟨h1, h2⟩ := h
  rcases h2 with ⟨rfl, h3⟩ | ⟨g, cap, cur, rfl, h3, h4, h5, h6, h7, h8⟩
  · have e := List.eq_nil_of_length_eq_zero h3
    subst e; exact readB_nil w
  · refine readB_mk h5 h6 ?_ (fun i hi => ?_)
    · rcases Nat.lt_or_ge g w.heap.size with h | h
      · exact h
      · rw [Array.getElem?_eq_none h] at h4; cases h4
    · have e : cur[i]? = some (.int .u8 (xs.getD i 0)) := by
        have e2 : (cur.toList.take (xs.length * 1))[i]? = (byts xs)[i]? := by rw [h8]
        rw [List.getElem?_take_of_lt (by omega), Array.getElem?_toList] at e2
        rw [e2]; unfold byts
        rw [List.getElem?_map, List.getD_eq_getElem?_getD, List.getElem?_eq_getElem hi]; rfl
      simp [World.cell?, h4, e]
theorem readB_kept {w w' : World} {v : Value} {xs : List Int} (h : ReadB w v xs) (hk : ∀ b, v.ownBlock = some b → b < w.heap.size → w'.heap[b]? = w.heap[b]?) (hs : w.heap.size ≤ w'.heap.size) : ReadB w' v xs := by
  obtain ⟨a, cap, rfl, h1, h2, h3, h4⟩ := h
  refine ⟨a, cap, rfl, h1, h2, h3, fun hp => ?_⟩
  obtain ⟨b, o, rfl, h5, h6⟩ := h4 hp
  exact ⟨b, o, rfl, by omega, fun i hi => (World.cell?_of_block (w := w) (hk b rfl h5)).trans (h6 i hi)⟩
theorem readB_below {w w' : World} {v : Value} {xs : List Int} (h : ReadB w v xs) (hb : Below w.heap.size w w') : ReadB w' v xs :=
  readB_kept h (fun b _ hlt => hb.block b hlt) hb.size
theorem ownB_mono {w : World} {B B' : Nat} {v : Value} {xs : List Int} (h : OwnB w B v xs) (hB : B' ≤ B) : OwnB w B' v xs := by
  obtain ⟨h1, h2⟩ := h
  rcases h2 with h2 | ⟨g, cap, cur, rfl, h3, h4⟩
  · exact ⟨h1, Or.inl h2⟩
  · exact ⟨h1, Or.inr ⟨g, cap, cur, rfl, Nat.le_trans hB h3, h4⟩⟩
theorem ownB_lt {w : World} {B : Nat} {v : Value} {xs : List Int} (h : OwnB w B v xs) : ∀ k, v.ownBlock = some k → B ≤ k ∧ k < w.heap.size := World.ownsRow.lt h
theorem ownB_below {w w' : World} {B : Nat} {v : Value} {xs : List Int} (h : OwnB w B v xs) (hb : Below w.heap.size w w') : OwnB w' B v xs := by
  have hg := gb_of hb (none : Option Nat)
  refine World.ownsRow.kept h hg ?_
  cases hv : v.ownBlock with
  | none => exact Or.inl rfl
  | some k => exact Or.inr (by intro e; cases e)
theorem one_byts (xs : List Int) : ∀ u ∈ byts xs, u.oneCell' = true := by
  intro u hu; unfold byts at hu; obtain ⟨x, _, rfl⟩ := List.mem_map.1 hu; rfl
theorem under_byts : Tryd.prog.underlying 51 = some (.slice 5) := Tryd.underlying51
/-- append(v, src...): v the call's own, src reads as a list. -/
theorem wp_appendB {o : Oper} {a : Act} {K : Act → World → Prop} {Q : Exit → Act → World → Prop} {w : World} (s x : Operand)
    (ho : o.op = .call { callee := .builtin .append, args := #[s, x], argTypes := #[51, 51] })
    (B : Nat) (v : Value) (xs : List Int) (hs : a.eval s = v) (hown : OwnB w B v xs) (u : Value) (ys : List Int) (hx : a.eval x = u) (hr : ReadB w u ys)
    (hlen : xs.length + ys.length ≤ 1099511627776) (hB : B ≤ w.heap.size)
    (h : ∀ v' w', OwnB w' B v' (xs ++ ys) → w.grownBy w' v.ownBlock → K (a.put o.dst v') w') : Oper.wp Tryd.prog o a w K Q := by
  obtain ⟨i, hi, hz, hs1, hb1⟩ := info_parts Tryd.infoByte
  obtain ⟨a', cap, rfl, h1, h2, h3, h4⟩ := hr
  cases a' with
  | none =>
    obtain rfl := h3 rfl
    have e := List.eq_nil_of_length_eq_zero (Nat.le_zero.1 h1)
    subst e
    have hrun := run_append_owned_none (P := Tryd.prog) (w := w) B 51 o.type 5 i 1 under_byts hi v _ _ hown
    unfold Oper.wp
    simp [execOp, ho, resolve, invoke, builtin, hs, hx, hrun, Result.andThen]
    exact h v w (by rw [List.append_nil]; exact hown) (gb_refl _ _)
  | some ad =>
    refine wp_append_own w s x _ ho B 5 i _ 1 1 under_byts hi hz hs1 hb1 (by rfl) (by decide) v _ _ hs hown ad ys.length cap (byts ys) hx (by rw [byts_length]; omega) (fun j u hj => ?_) (one_byts ys) (by unfold maxLen; omega) (by omega) hB (fun v' w' ho' hg' _ => ?_)
    · have hlt : j < ys.length := by
        rcases Nat.lt_or_ge j ys.length with q | q
        · exact q
        · rw [List.getElem?_eq_none (by rw [byts_length]; exact q)] at hj; cases hj
      obtain ⟨b, off, hab, _, h6⟩ := h4 (by omega)
      cases hab
      have e : (byts ys)[j]? = some (.int .u8 (ys.getD j 0)) := by
        unfold byts
        rw [List.getElem?_map, List.getD_eq_getElem?_getD, List.getElem?_eq_getElem hlt]; rfl
      rw [e] at hj; cases hj
      have := h6 j hlt
      rw [Addr.add_lit]; exact this
    · refine h v' w' ?_ hg'
      unfold OwnB
      rw [List.length_append]
      have e : byts (xs ++ ys) = byts xs ++ byts ys := by unfold byts; simp
      rw [e]; exact ho'
theorem appendB {ops : Array Oper} {rest : List Oper} {o : Oper} {a : Act} {Q : Exit → Act → World → Prop} {w : World} (hgd : o.guard = none) (s x : Operand)
    (ho : o.op = .call { callee := .builtin .append, args := #[s, x], argTypes := #[51, 51] })
    (B : Nat) (v : Value) (xs : List Int) (hs : a.eval s = v) (hown : OwnB w B v xs) (u : Value) (ys : List Int) (hx : a.eval x = u) (hr : ReadB w u ys)
    (hlen : xs.length + ys.length ≤ 1099511627776) (hB : B ≤ w.heap.size)
    (h : ∀ v' w', OwnB w' B v' (xs ++ ys) → w.grownBy w' v.ownBlock → wpList Tryd.prog ops Q rest (a.put o.dst v') w') : wpList Tryd.prog ops Q (o :: rest) a w :=
  wpList_plain hgd fun _ hK => wp_appendB s x ho B v xs hs hown u ys hx hr hlen hB fun v' w' h1 h2 => hK _ _ (h v' w' h1 h2)
/-- What one element is, in the block that 'append(v, x)' lays for it. -/
theorem read_oneB (w : World) (x : Int) : ReadB (w.alloc (.cells #[.int .u8 x] 5)) (.slice (some ⟨w.heap.size, 0, none⟩) 1 1) [x] :=
  readB_mk (xs := [x]) (Nat.le_refl _) (by unfold maxLen; decide) (by simp) (fun i hi => by
    have e : i = 0 := by simp at hi; omega
    subst e; rw [World.cell?_alloc_new]; rfl)
theorem readB_pos {w : World} {u : Value} {xs : List Int} (h : ReadB w u xs) (hn : 0 < xs.length) : ∃ b o cap, u = .slice (some ⟨b, o, none⟩) xs.length cap ∧ xs.length ≤ cap ∧ cap ≤ maxLen ∧ b < w.heap.size ∧ ∀ i, i < xs.length → w.cell? ⟨b, o + i, none⟩ = some (.int .u8 (xs.getD i 0)) := by
  obtain ⟨a, cap, rfl, h1, h2, h3, h4⟩ := h
  obtain ⟨b, o, rfl, h5, h6⟩ := h4 hn
  exact ⟨b, o, cap, rfl, h1, h2, h5, h6⟩
/-- A slice of byts that came in. -/
theorem readB_of {w : World} {x : Addr} {len cap : Nat} {zs : List Int} (hl : len ≤ cap) (hm : cap ≤ maxLen) (hz : zs.length = cap) (hc : ∀ i, i < zs.length → w.cell? (x.add i) = some (.int .u8 (zs.getD i 0))) : ReadB w (.slice (some x) len cap) (zs.take len) := by
  have e : (zs.take len).length = len := by simp; omega
  refine ⟨some x, cap, by rw [e], by omega, hm, fun h => (by cases h), fun hp => ?_⟩
  rw [e] at hp
  obtain ⟨b, o, spot⟩ := x
  have h0 := hc 0 (by omega)
  have hspot : spot = none := by simpa [Addr.add] using World.cell?_spot h0
  subst hspot
  refine ⟨b, o, rfl, ?_, fun i hi => ?_⟩
  · have := World.block_lt_of_cell? w _ h0
    simpa [Addr.add] using this
  · rw [e] at hi
    have := hc i (by omega)
    rw [Addr.add_lit] at this
    rw [this]
    simp only [List.getD_eq_getElem?_getD, List.getElem?_take_of_lt hi]
theorem ownB_form {w : World} {B : Nat} {v : Value} {xs : List Int} (h : OwnB w B v xs) (hn : 0 < xs.length) : ∃ g cap, v = .slice (some ⟨g, 0, none⟩) xs.length cap ∧ B ≤ g ∧ g < w.heap.size ∧ xs.length ≤ cap ∧ cap ≤ maxLen ∧ (∀ i, i < xs.length → w.cell? ⟨g, i, none⟩ = some (.int .u8 (xs.getD i 0))) ∧ ∀ i, w.frozen? ⟨g, i, none⟩ = false := by
  have hr := ownB_read h
  have hl := ownB_lt h
  obtain ⟨h1, h2⟩ := h
  rcases h2 with ⟨_, h3⟩ | ⟨g, cap, cur, rfl, h3, h4, h5, h6, h7, h8⟩
  · omega
  · obtain ⟨b, o, cap', hv, r1, r2, r3, r4⟩ := readB_pos hr hn
    cases hv
    exact ⟨g, cap, rfl, h3, (hl g rfl).2, h5, h6, fun i hi => by have := r4 i hi; rwa [Nat.zero_add] at this, fun i => by simp [World.frozen?, h4]⟩
theorem ownB_alloc {w : World} {B : Nat} {v : Value} {xs : List Int} (h : OwnB w B v xs) (o : Obj) : OwnB (w.alloc o) B v xs := World.ownsRow.alloc h o
/-- Old memory stays when what is the call's own is appended to. -/
theorem b_ownB {W w w' : World} {v : Value} {xs : List Int} (h : Below W.heap.size W w) (ho : OwnB w W.heap.size v xs) (hg : w.grownBy w' v.ownBlock) : Below W.heap.size W w' :=
  h.grown hg h.size (fun k e => (ownB_lt ho k e).1)
end
section
open Go.RowKit
set_option linter.unusedVariables false
set_option linter.unusedSimpArgs false
def byteAt (v : Int) (k : Nat) : Int := v / 256 ^ k % 256
def putL (n : Nat) (v : Int) : List Int := (List.range n).map (byteAt v)
theorem putL_length (n : Nat) (v : Int) : (putL n v).length = n := by unfold putL; simp
theorem putL_snoc (n : Nat) (v : Int) : putL (n+1) v = putL n v ++ [byteAt v n] := by unfold putL; rw [List.range_succ]; simp
def IsBytes (xs : List Int) : Prop := ∀ x ∈ xs, 0 ≤ x ∧ x < 256
theorem isBytes_at {xs : List Int} (h : IsBytes xs) (k : Nat) (hk : k < xs.length) : 0 ≤ xs.getD k 0 ∧ xs.getD k 0 < 256 := by
  rw [List.getD_eq_getElem?_getD, List.getElem?_eq_getElem hk]
  exact h _ (List.getElem_mem hk)
theorem put_facts (v : Int) (k : Nat) (hv : 0 ≤ v) (hv2 : v < 18446744073709551616) : (v / 256 ^ k).tmod 256 = byteAt v k ∧ (v / 256 ^ k).tdiv 256 = v / 256 ^ (k + 1) ∧ byteAt v k % 256 = byteAt v k := by
  have h0 : 0 ≤ v / 256 ^ k := Int.ediv_nonneg hv (Int.pow_nonneg (by decide))
  refine ⟨?_, ?_, ?_⟩
  · rw [Int.tmod_eq_emod_of_nonneg h0]; rfl
  · rw [Int.tdiv_eq_ediv_of_nonneg h0, Int.pow_succ, Int.ediv_ediv_of_nonneg (Int.pow_nonneg (by decide))]
  · unfold byteAt; rw [Int.emod_emod]
theorem rnput_any (n : Nat) (v : Int) (w : World) (h8 : n ≤ 8) (hv : 0 ≤ v) (hv2 : v < 18446744073709551616) :
    Calls Tryd.prog 87 #[.int .i64 (n : Int), .int .u64 v] w (RetOwnB w (putL n v)) := by
  obtain ⟨N, hN⟩ : ∃ N : Int, N = (n : Int) := ⟨_, rfl⟩
  have a8 : decide (N ≤ 8) = true := by rw [decide_eq_true_iff]; omega
  rw [← hN]
  have H8 := Lib.hid h8; have HN := Lib.hid hN; have HV := Lib.hid hv; have HV2 := Lib.hid hv2; clear h8 hN hv hv2
  go_enter Tryd.func87, Tryd.ntmps87
  go_wp2_with fail
  go_loopw [1, 5, 6] (fun u s i wr => ∃ k : Nat, k ≤ n ∧ u = .int .u64 (v / 256 ^ k) ∧ i = .int .i64 k ∧ OwnB wr w.heap.size s (putL k v) ∧ Below w.heap.size w wr) (fun _ _ i _ => n - (intOf i).toNat)
  case atStart => exact ⟨0, by omega, by rw [Int.pow_zero, Int.ediv_one], rfl, ownB_nil _ _, Below.refl _ _⟩
  case round =>
    obtain ⟨k, hk, rfl, rfl, hown, hb⟩ := hrel
    by_cases hlk : k < n
    · have k1 : decide ((k : Int) < N) = true := by rw [decide_eq_true_iff, HN.out]; omega
      obtain ⟨hq0, hq1, hq2⟩ := put_facts v k HV.out HV2.out
      have hst := putL_snoc k v
      obtain ⟨q, hq⟩ : ∃ q, q = v / 256 ^ k := ⟨_, rfl⟩
      obtain ⟨y, hy⟩ : ∃ y, y = byteAt v k := ⟨_, rfl⟩
      obtain ⟨q2, hqq⟩ : ∃ q2, q2 = v / 256 ^ (k + 1) := ⟨_, rfl⟩
      rw [← hq, ← hy] at hq0
      rw [← hq, ← hqq] at hq1
      rw [← hy] at hq2 hst
      rw [← hq]
      have HQ := Lib.hid hq; have HY := Lib.hid hy; have HQQ := Lib.hid hqq; have HST := Lib.hid hst; clear hq hy hqq hst
      go_wp2_with (at_builtin; refine appendB rfl _ _ rfl w.heap.size _ (putL k v) rfl (ownB_alloc hown _) _ [y] rfl (read_oneB _ y) ?c1 ?c2 ?_; (case c1 => (rw [putL_length]; have := H8.out; simp; omega)); (case c2 => (have := hb.size; simp; omega)); intro v1 w1 hown1 hg1)
      have hb2 : Below w.heap.size w w1 := b_ownB (b_alloc hb _) (ownB_alloc hown _) hg1
      rw [IntWalk.wrap64_in _ (by have := H8.out; omega)]
      refine ⟨⟨k + 1, by omega, ?_, by rw [Int.natCast_succ], by rw [HST.out]; exact hown1, hb2⟩, by simp [intOf]; omega⟩
      have h0 : 0 ≤ v / 256 ^ (k + 1) := Int.ediv_nonneg HV.out (Int.pow_nonneg (by decide))
      have h1 := Int.ediv_le_self (256 ^ (k + 1)) HV.out
      rw [HQQ.out, IntWalk.u64_in _ (by have := HV2.out; omega)]
    · have E : k = n := by omega
      subst E
      have k1 : decide ((k : Int) < N) = false := by rw [decide_eq_false_iff_not, HN.out]; omega
      go_wp2_with fail
      go_ret
      exact ⟨_, rfl, hown, hb⟩
end
section
open Go.RowKit
set_option linter.unusedVariables false
set_option linter.unusedSimpArgs false
/-- 0: told nothing; 1: x; 2: a; 3: a and b; 4: there is none. -/
def kindOf (op : Int) : Nat :=
  if op < 0 ∨ 37 ≤ op then 4 else [0,1,1,0,2,2,2,2,0,0,2,2,2,2,2,0,0,3,2,2,2,2,0,0,0,2,2,0,2,0,0,2,2,0,0,0,0].getD op.toNat 4
def shN (op : Int) : Int := if kindOf op = 3 then 2 else if kindOf op = 2 then 1 else 0
def shX (op : Int) : Bool := kindOf op == 1
def shOk (op : Int) : Bool := kindOf op != 4
theorem kind_cases (op : Int) : (op < 0 ∨ 37 ≤ op) ∨ ∃ k : Nat, k < 37 ∧ op = (k : Int) := by
  rcases (show (op < 0 ∨ 37 ≤ op) ∨ (0 ≤ op ∧ op < 37) by omega) with h | ⟨h1, h2⟩
  · exact Or.inl h
  · exact Or.inr ⟨op.toNat, by omega, by omega⟩
theorem rest_dec : ∀ k : Fin 37, (k.val ≠ 1 ∧ k.val ≠ 2 ∧ k.val ≠ 17 ∧ k.val ≠ 4 ∧ k.val ≠ 5 ∧ k.val ≠ 6 ∧ k.val ≠ 7 ∧ k.val ≠ 10 ∧ k.val ≠ 11 ∧ k.val ≠ 12 ∧ k.val ≠ 13 ∧ k.val ≠ 14 ∧ k.val ≠ 18 ∧ k.val ≠ 19 ∧ k.val ≠ 20 ∧ k.val ≠ 21 ∧ k.val ≠ 25 ∧ k.val ≠ 26 ∧ k.val ≠ 28 ∧ k.val ≠ 31 ∧ k.val ≠ 32) → kindOf (k.val : Int) = 0 := by decide
theorem kind_rest (op : Int) (h : op ≠ 1 ∧ op ≠ 2 ∧ op ≠ 17 ∧ op ≠ 4 ∧ op ≠ 5 ∧ op ≠ 6 ∧ op ≠ 7 ∧ op ≠ 10 ∧ op ≠ 11 ∧ op ≠ 12 ∧ op ≠ 13 ∧ op ≠ 14 ∧ op ≠ 18 ∧ op ≠ 19 ∧ op ≠ 20 ∧ op ≠ 21 ∧ op ≠ 25 ∧ op ≠ 26 ∧ op ≠ 28 ∧ op ≠ 31 ∧ op ≠ 32) : kindOf op = if 0 ≤ op ∧ op < 37 then 0 else 4 := by
  rcases kind_cases op with h1 | ⟨k, hk, rfl⟩
  · rw [if_neg (by omega)]; unfold kindOf; rw [if_pos h1]
  · rw [if_pos (by omega)]
    exact rest_dec ⟨k, hk⟩ (by simp only []; omega)
theorem kind_n {op : Int} {k : Nat} (h : kindOf op = k) : shN op = (if k = 3 then 2 else if k = 2 then 1 else 0) ∧ shX op = (k == 1) ∧ shOk op = (k != 4) := by
  unfold shN shX shOk; rw [h]; exact ⟨rfl, rfl, rfl⟩
theorem shape_any (op : Int) (w : World) : Calls Tryd.prog 35 #[.int .i64 op] w fun e w' => e = .returned (.tuple #[.int .i64 (shN op), .bool (shX op), .bool (shOk op)]) ∧ w = w' := by
  go_enter Tryd.func35, Tryd.ntmps35
  go_wp2_with fail
  all_goals (first | (rename_i hc; obtain rfl := eq_of_beq hc; go_ret3; exact ⟨rfl, rfl⟩) | skip)
  · go_ret3
    have K := kind_rest op (by simp only [beq_eq_false_iff_ne, ne_eq] at *; omega)
    rename_i h0
    by_cases h : op < 37
    · rw [if_pos ⟨h0, h⟩] at K
      obtain ⟨e1, e2, e3⟩ := kind_n K
      rw [e1, e2, e3, decide_eq_true h]; exact ⟨rfl, rfl⟩
    · rw [if_neg (by omega)] at K
      obtain ⟨e1, e2, e3⟩ := kind_n K
      rw [e1, e2, e3, decide_eq_false h]; exact ⟨rfl, rfl⟩
  · go_ret3
    have K := kind_rest op (by simp only [beq_eq_false_iff_ne, ne_eq] at *; omega)
    rw [if_neg (by omega)] at K
    obtain ⟨e1, e2, e3⟩ := kind_n K
    rw [e1, e2, e3]; exact ⟨rfl, rfl⟩
def smallB (n : Int) (t : Bool) : Bool := decide (n = 0) || (t && (decide (0 < n) && decide (n ≤ 65535)))
theorem small_any (n : Int) (t : Bool) (w : World) : Calls Tryd.prog 63 #[.int .i64 n, .bool t] w fun e w' => e = .returned (.bool (smallB n t)) ∧ w = w' := by
  go_enter Tryd.func63, Tryd.ntmps63
  go_wp2_with fail
  all_goals go_ret
  all_goals refine ⟨?_, rfl⟩
  all_goals refine congrArg (fun b => Ending.returned (Value.bool b)) ?_
  all_goals unfold smallB
  all_goals ((try simp_all [show (n == 0) = decide (n = 0) from rfl]); try (intros; omega))
def mayB (op x a b : Int) : Bool := shOk op && (shX op || decide (x = 0)) && smallB a (decide (0 < shN op)) && smallB b (decide (1 < shN op))
theorem may_any (op x a b : Int) (w : World) : Calls Tryd.prog 34 #[.agg #[.int .i64 op, .int .u64 x, .int .i64 a, .int .i64 b]] w fun e w' => e = .returned (.bool (mayB op x a b)) ∧ Below w.heap.size w w' := by
  have M : Hid (mayB op x a b = (shOk op && (shX op || decide (x = 0)) && smallB a (decide (0 < shN op)) && smallB b (decide (1 < shN op)))) := rfl
  have hB : Below w.heap.size w (w.alloc (.cells #[.int .i64 op, .int .u64 x, .int .i64 a, .int .i64 b] 45)) := b_alloc (Below.refl _ _) _
  go_enter Tryd.func34, Tryd.ntmps34
  go_wp2_with fail
  refine (shape_any _ _).mono ?_
  rintro e w1 ⟨rfl, rfl⟩
  generalize shOk op = ok at M ⊢
  generalize shX op = sx at M ⊢
  generalize shN op = n at M ⊢
  cases ok with
  | false =>
    go_wp2_with fail
    go_ret
    exact ⟨by rw [M.out]; rfl, hB⟩
  | true =>
    have key : ∀ p : Bool, Hid ((sx || decide (x = 0)) = p) → Hid (mayB op x a b = (p && smallB a (decide (0 < n)) && smallB b (decide (1 < n)))) := fun p hp => by
      have := M.out; rw [Bool.true_and, hp.out] at this; exact this
    rcases (show sx = true ∨ (sx = false ∧ x = 0) ∨ (sx = false ∧ (x == 0) = false) by cases sx <;> by_cases h : x = 0 <;> simp [h]) with rfl | ⟨rfl, rfl⟩ | ⟨rfl, h⟩
    · replace key := key true rfl
      clear M
      go_wp2_with fail
      refine (small_any _ _ _).mono ?_
      rintro e w1 ⟨rfl, rfl⟩
      generalize smallB a (decide (0 < n)) = s1 at key ⊢
      cases s1 with
      | false => go_wp2_with fail; go_ret; exact ⟨by rw [key.out]; rfl, hB⟩
      | true =>
        go_wp2_with fail
        refine (small_any _ _ _).mono ?_
        rintro e w1 ⟨rfl, rfl⟩
        generalize smallB b (decide (1 < n)) = s2 at key ⊢
        go_wp2_with fail
        go_ret
        exact ⟨by rw [key.out]; cases s2 <;> rfl, hB⟩
    · replace key := key true rfl
      clear M
      go_wp2_with fail
      refine (small_any _ _ _).mono ?_
      rintro e w1 ⟨rfl, rfl⟩
      generalize smallB a (decide (0 < n)) = s1 at key ⊢
      cases s1 with
      | false => go_wp2_with fail; go_ret; exact ⟨by rw [key.out]; rfl, hB⟩
      | true =>
        go_wp2_with fail
        refine (small_any _ _ _).mono ?_
        rintro e w1 ⟨rfl, rfl⟩
        generalize smallB b (decide (1 < n)) = s2 at key ⊢
        go_wp2_with fail
        go_ret
        exact ⟨by rw [key.out]; cases s2 <;> rfl, hB⟩
    · replace key := key false (Lib.hid (by rw [show (x == 0) = decide (x = 0) from rfl] at h; rw [h]; rfl))
      clear M
      go_wp2_with fail
      go_ret
      exact ⟨by rw [key.out]; rfl, hB⟩
def tellS : Nat → ByteArray
  | 0 => ⟨#[]⟩
  | 1 => ⟨#[120]⟩
  | 2 => ⟨#[97]⟩
  | 3 => ⟨#[97, 98]⟩
  | _ => ⟨#[45]⟩
theorem wp_world {P : Program} {c : Code} {Q : Exit → Act → World → Prop} {a : Act} {w : World} (o : Obj) (h : ∀ w1, w1 = w.alloc o → Code.wp P c Q a w1) : Code.wp P c Q a (w.alloc o) := h _ rfl
def toldTab : Array Value := #[Value.string ⟨#[]⟩, Value.string ⟨#[120]⟩, Value.string ⟨#[120]⟩, Value.string ⟨#[]⟩, Value.string ⟨#[97]⟩, Value.string ⟨#[97]⟩, Value.string ⟨#[97]⟩, Value.string ⟨#[97]⟩, Value.string ⟨#[]⟩, Value.string ⟨#[]⟩, Value.string ⟨#[97]⟩, Value.string ⟨#[97]⟩, Value.string ⟨#[97]⟩, Value.string ⟨#[97]⟩, Value.string ⟨#[97]⟩, Value.string ⟨#[]⟩, Value.string ⟨#[]⟩, Value.string ⟨#[97, 98]⟩, Value.string ⟨#[97]⟩, Value.string ⟨#[97]⟩, Value.string ⟨#[97]⟩, Value.string ⟨#[97]⟩, Value.string ⟨#[]⟩, Value.string ⟨#[]⟩, Value.string ⟨#[]⟩, Value.string ⟨#[97]⟩, Value.string ⟨#[97]⟩, Value.string ⟨#[]⟩, Value.string ⟨#[97]⟩, Value.string ⟨#[]⟩, Value.string ⟨#[]⟩, Value.string ⟨#[97]⟩, Value.string ⟨#[97]⟩, Value.string ⟨#[]⟩, Value.string ⟨#[]⟩, Value.string ⟨#[]⟩, Value.string ⟨#[]⟩]
theorem tells_at (k : Nat) (hk : k < 37) : toldTab[k]? = some (.string (tellS (kindOf (k : Int)))) :=
  match k, hk with
  | 0, _ => rfl
  | 1, _ => rfl
  | 2, _ => rfl
  | 3, _ => rfl
  | 4, _ => rfl
  | 5, _ => rfl
  | 6, _ => rfl
  | 7, _ => rfl
  | 8, _ => rfl
  | 9, _ => rfl
  | 10, _ => rfl
  | 11, _ => rfl
  | 12, _ => rfl
  | 13, _ => rfl
  | 14, _ => rfl
  | 15, _ => rfl
  | 16, _ => rfl
  | 17, _ => rfl
  | 18, _ => rfl
  | 19, _ => rfl
  | 20, _ => rfl
  | 21, _ => rfl
  | 22, _ => rfl
  | 23, _ => rfl
  | 24, _ => rfl
  | 25, _ => rfl
  | 26, _ => rfl
  | 27, _ => rfl
  | 28, _ => rfl
  | 29, _ => rfl
  | 30, _ => rfl
  | 31, _ => rfl
  | 32, _ => rfl
  | 33, _ => rfl
  | 34, _ => rfl
  | 35, _ => rfl
  | 36, _ => rfl
  | n + 37, h => absurd h (by omega)
theorem told_any (op : Int) (w : World) : Calls Tryd.prog 39 #[.int .i64 op] w fun e w' => e = .returned (.string (tellS (kindOf op))) ∧ Below w.heap.size w w' := by
  rcases kind_cases op with h | ⟨k, hk, rfl⟩
  · have E : Hid (kindOf op = 4) := Lib.hid (by unfold kindOf; rw [if_pos h])
    go_enter Tryd.func39, Tryd.ntmps39
    go_wp2_with fail
    all_goals go_ret
    all_goals exact ⟨by rw [E.out]; rfl, b_alloc (Below.refl _ _) _⟩
  · have k1 : decide ((k : Int) < 0) = false := by rw [decide_eq_false_iff_not]; omega
    have k2 : decide (37 ≤ (k : Int)) = false := by rw [decide_eq_false_iff_not]; omega
    have k0 : (0 : Int) ≤ k := by omega
    have k3 : (k : Int) < 37 := by omega
    go_enter Tryd.func39, Tryd.ntmps39
    go_upto_region 2 with fail
    refine wp_world (.cells toldTab 9) ?_
    intro w1 hw
    have hB : Below w.heap.size w w1 := by rw [hw]; exact b_alloc (Below.refl _ _) _
    have hc : w1.cell? ⟨w.heap.size, k, none⟩ = some (.string (tellS (kindOf (k : Int)))) := by
      rw [hw, World.cell?_alloc_new]
      exact tells_at k hk
    obtain ⟨s, hs⟩ : ∃ s, s = tellS (kindOf (k : Int)) := ⟨_, rfl⟩
    rw [← hs] at hc
    have HS := Lib.hid hs
    have HK := Lib.hid hk
    clear hw hk hs
    go_wp2_with fail
    go_ret
    exact ⟨by rw [← HS.out]; rfl, hB⟩
def hasB (op s : Int) : Bool := match kindOf op with
  | 0 => false
  | 1 => decide (s = 120)
  | 2 => decide (s = 97)
  | 3 => decide (s = 97) || decide (s = 98)
  | _ => decide (s = 45)
theorem beq_dec (c s : Int) : (c == s) = decide (s = c) := by
  by_cases h : s = c
  · subst h; simp
  · rw [decide_eq_false h]; exact beq_false_of_ne (fun e => h e.symm)
theorem dec_of {c s : Int} {b : Bool} (h : (c == s) = b) : decide (s = c) = b := (beq_dec c s).symm.trans h
theorem has_any (op s : Int) (w : World) : Calls Tryd.prog 40 #[.int .i64 op, .int .u8 s] w fun e w' => e = .returned (.bool (hasB op s)) ∧ Below w.heap.size w w' := by
  have H : Hid (hasB op s = match kindOf op with | 0 => false | 1 => decide (s = 120) | 2 => decide (s = 97) | 3 => decide (s = 97) || decide (s = 98) | _ => decide (s = 45)) := rfl
  go_enter Tryd.func40, Tryd.ntmps40
  go_wp2_with fail
  refine (told_any _ _).mono ?_
  rintro e w1 ⟨rfl, hb⟩
  generalize kindOf op = κ at H ⊢
  match κ, H with
  | 0, H =>
    rw [show tellS 0 = ⟨#[]⟩ from rfl]
    go_wp2_with fail
    go_rounds 1
    go_ret
    exact ⟨by rw [H.out]; rfl, hb⟩
  | 1, H =>
    rw [show tellS 1 = ⟨#[120]⟩ from rfl]
    go_wp2_with fail
    go_rounds 2
    all_goals go_ret
    all_goals refine ⟨?_, hb⟩
    all_goals (rw [H.out]; refine congrArg (fun b => Ending.returned (Value.bool b)) ?_)
    · exact (dec_of (c := 120) (b := true) (by assumption)).symm
    · exact (dec_of (c := 120) (b := false) (by assumption)).symm
  | 2, H =>
    rw [show tellS 2 = ⟨#[97]⟩ from rfl]
    go_wp2_with fail
    go_rounds 2
    all_goals go_ret
    all_goals refine ⟨?_, hb⟩
    all_goals (rw [H.out]; refine congrArg (fun b => Ending.returned (Value.bool b)) ?_)
    · exact (dec_of (c := 97) (b := true) (by assumption)).symm
    · exact (dec_of (c := 97) (b := false) (by assumption)).symm
  | 3, H =>
    rw [show tellS 3 = ⟨#[97, 98]⟩ from rfl]
    go_wp2_with fail
    go_rounds 3
    all_goals go_ret
    all_goals refine ⟨?_, hb⟩
    all_goals (rw [H.out]; refine congrArg (fun b => Ending.returned (Value.bool b)) ?_)
    · rw [dec_of (c := 97) (b := true) (by assumption)]; rfl
    · rw [dec_of (c := 97) (b := false) (by assumption), dec_of (c := 98) (b := true) (by assumption)]; rfl
    · rw [dec_of (c := 97) (b := false) (by assumption), dec_of (c := 98) (b := false) (by assumption)]; rfl
  | n + 4, H =>
    rw [show tellS (n + 4) = ⟨#[45]⟩ from rfl]
    go_wp2_with fail
    go_rounds 2
    all_goals go_ret
    all_goals refine ⟨?_, hb⟩
    all_goals (rw [H.out]; refine congrArg (fun b => Ending.returned (Value.bool b)) ?_)
    · exact (dec_of (c := 45) (b := true) (by assumption)).symm
    · exact (dec_of (c := 45) (b := false) (by assumption)).symm
end
section
open Go.RowKit
set_option linter.unusedVariables false
set_option linter.unusedSimpArgs false
theorem plain_any (op x a b : Int) (w : World) : Calls Tryd.prog 52 #[.agg #[.int .i64 op, .int .u64 x, .int .i64 a, .int .i64 b]] w fun e w' => e = .returned (.agg #[.int .i64 op, .int .u64 x, .int .i64 a, .int .i64 b]) ∧ Below w.heap.size w w' := by
  go_enter Tryd.func52, Tryd.ntmps52
  go_wp2_with fail
  exact bodyPost_ret (v := .agg #[.int .i64 op, .int .u64 x, .int .i64 a, .int .i64 b]) (by simp [results, Tryd.results52, go_sem]) rfl ⟨rfl, b_alloc (b_alloc (Below.refl _ _) _) _⟩
def nameS : Nat → ByteArray
  | 0 => ⟨#[110, 111, 112]⟩
  | 1 => ⟨#[112, 117, 115, 104]⟩
  | 2 => ⟨#[112, 117, 115, 104, 102]⟩
  | 3 => ⟨#[110, 105, 108]⟩
  | 4 => ⟨#[103, 101, 116]⟩
  | 5 => ⟨#[115, 101, 116]⟩
  | 6 => ⟨#[103, 103, 101, 116]⟩
  | 7 => ⟨#[103, 115, 101, 116]⟩
  | 8 => ⟨#[112, 111, 112]⟩
  | 9 => ⟨#[100, 117, 112]⟩
  | 10 => ⟨#[117, 110]⟩
  | 11 => ⟨#[98, 105, 110]⟩
  | 12 => ⟨#[106, 117, 109, 112]⟩
  | 13 => ⟨#[106, 122]⟩
  | 14 => ⟨#[99, 97, 108, 108]⟩
  | 15 => ⟨#[114, 101, 116]⟩
  | 16 => ⟨#[112, 111, 108, 108]⟩
  | 17 => ⟨#[110, 101, 119]⟩
  | 18 => ⟨#[114, 103, 101, 116]⟩
  | 19 => ⟨#[114, 115, 101, 116]⟩
  | 20 => ⟨#[110, 103, 101, 116]⟩
  | 21 => ⟨#[110, 115, 101, 116]⟩
  | 22 => ⟨#[105, 115, 110, 105, 108]⟩
  | 23 => ⟨#[109, 97, 108, 108, 111, 99]⟩
  | 24 => ⟨#[102, 114, 101, 101]⟩
  | 25 => ⟨#[108, 111, 97, 100]⟩
  | 26 => ⟨#[115, 116, 111, 114, 101]⟩
  | 27 => ⟨#[112, 110, 105, 108]⟩
  | 28 => ⟨#[115, 112, 97, 119, 110]⟩
  | 29 => ⟨#[106, 111, 105, 110]⟩
  | 30 => ⟨#[121, 105, 101, 108, 100]⟩
  | 31 => ⟨#[108, 111, 99, 107]⟩
  | 32 => ⟨#[117, 110, 108, 111, 99, 107]⟩
  | 33 => ⟨#[108, 111, 103]⟩
  | 34 => ⟨#[108, 111, 103, 102]⟩
  | 35 => ⟨#[116, 114, 97, 112]⟩
  | 36 => ⟨#[116, 111, 112, 116, 114]⟩
  | _ => ⟨#[]⟩
def nameTab : Array Value := #[Value.string ⟨#[110, 111, 112]⟩, Value.string ⟨#[112, 117, 115, 104]⟩, Value.string ⟨#[112, 117, 115, 104, 102]⟩, Value.string ⟨#[110, 105, 108]⟩, Value.string ⟨#[103, 101, 116]⟩, Value.string ⟨#[115, 101, 116]⟩, Value.string ⟨#[103, 103, 101, 116]⟩, Value.string ⟨#[103, 115, 101, 116]⟩, Value.string ⟨#[112, 111, 112]⟩, Value.string ⟨#[100, 117, 112]⟩, Value.string ⟨#[117, 110]⟩, Value.string ⟨#[98, 105, 110]⟩, Value.string ⟨#[106, 117, 109, 112]⟩, Value.string ⟨#[106, 122]⟩, Value.string ⟨#[99, 97, 108, 108]⟩, Value.string ⟨#[114, 101, 116]⟩, Value.string ⟨#[112, 111, 108, 108]⟩, Value.string ⟨#[110, 101, 119]⟩, Value.string ⟨#[114, 103, 101, 116]⟩, Value.string ⟨#[114, 115, 101, 116]⟩, Value.string ⟨#[110, 103, 101, 116]⟩, Value.string ⟨#[110, 115, 101, 116]⟩, Value.string ⟨#[105, 115, 110, 105, 108]⟩, Value.string ⟨#[109, 97, 108, 108, 111, 99]⟩, Value.string ⟨#[102, 114, 101, 101]⟩, Value.string ⟨#[108, 111, 97, 100]⟩, Value.string ⟨#[115, 116, 111, 114, 101]⟩, Value.string ⟨#[112, 110, 105, 108]⟩, Value.string ⟨#[115, 112, 97, 119, 110]⟩, Value.string ⟨#[106, 111, 105, 110]⟩, Value.string ⟨#[121, 105, 101, 108, 100]⟩, Value.string ⟨#[108, 111, 99, 107]⟩, Value.string ⟨#[117, 110, 108, 111, 99, 107]⟩, Value.string ⟨#[108, 111, 103]⟩, Value.string ⟨#[108, 111, 103, 102]⟩, Value.string ⟨#[116, 114, 97, 112]⟩, Value.string ⟨#[116, 111, 112, 116, 114]⟩]
theorem names_at (k : Nat) (hk : k < 37) : nameTab[k]? = some (.string (nameS k)) :=
  match k, hk with
  | 0, _ => rfl
  | 1, _ => rfl
  | 2, _ => rfl
  | 3, _ => rfl
  | 4, _ => rfl
  | 5, _ => rfl
  | 6, _ => rfl
  | 7, _ => rfl
  | 8, _ => rfl
  | 9, _ => rfl
  | 10, _ => rfl
  | 11, _ => rfl
  | 12, _ => rfl
  | 13, _ => rfl
  | 14, _ => rfl
  | 15, _ => rfl
  | 16, _ => rfl
  | 17, _ => rfl
  | 18, _ => rfl
  | 19, _ => rfl
  | 20, _ => rfl
  | 21, _ => rfl
  | 22, _ => rfl
  | 23, _ => rfl
  | 24, _ => rfl
  | 25, _ => rfl
  | 26, _ => rfl
  | 27, _ => rfl
  | 28, _ => rfl
  | 29, _ => rfl
  | 30, _ => rfl
  | 31, _ => rfl
  | 32, _ => rfl
  | 33, _ => rfl
  | 34, _ => rfl
  | 35, _ => rfl
  | 36, _ => rfl
  | n + 37, h => absurd h (by omega)
theorem names_any (w : World) : Calls Tryd.prog 41 #[] w fun e w' => e = .returned (.slice (some ⟨w.heap.size, 0, none⟩) 37 37) ∧ w' = w.alloc (.cells nameTab 9) := by
  go_enter Tryd.func41, Tryd.ntmps41
  go_wp2_with fail
  go_ret
  exact ⟨rfl, rfl⟩
theorem kind_le (op : Int) : kindOf op ≤ 4 := by
  rcases kind_cases op with h | ⟨k, hk, rfl⟩
  · unfold kindOf; rw [if_pos h]; exact Nat.le_refl _
  · exact (show ∀ k : Fin 37, kindOf (k.val : Int) ≤ 4 by decide) ⟨k, hk⟩
theorem has_xs (op : Int) : hasB op 120 = (kindOf op == 1) ∧ hasB op 97 = (kindOf op == 2 || kindOf op == 3) ∧ hasB op 98 = (kindOf op == 3) := by
  unfold hasB
  have h : kindOf op ≤ 4 := kind_le op
  generalize kindOf op = n at h
  match n, h with
  | 0, _ => exact ⟨rfl, rfl, rfl⟩
  | 1, _ => exact ⟨rfl, rfl, rfl⟩
  | 2, _ => exact ⟨rfl, rfl, rfl⟩
  | 3, _ => exact ⟨rfl, rfl, rfl⟩
  | 4, _ => exact ⟨rfl, rfl, rfl⟩
theorem may_four {op x a b : Int} (h : kindOf op = 4) : mayB op x a b = false := by
  unfold mayB shOk; rw [h]; rfl
theorem small_out {n : Int} {t : Bool} (h : n < 0 ∨ 65535 < n) : smallB n t = false := by
  unfold smallB; rw [decide_eq_false (by omega)]; cases t <;> simp; omega
theorem small_in {n : Int} {t : Bool} (h : 0 ≤ n) (h' : n ≤ 65535) : smallB n t = (t || decide (n = 0)) := by
  unfold smallB
  by_cases e : n = 0
  · rw [decide_eq_true e]; simp
  · rw [decide_eq_false e, decide_eq_true (show 0 < n by omega), decide_eq_true h']; simp
theorem may_outA {op x a b : Int} (h : a < 0 ∨ 65535 < a) : mayB op x a b = false := by
  unfold mayB; rw [small_out h]; simp
theorem may_outB {op x a b : Int} (h : b < 0 ∨ 65535 < b) : mayB op x a b = false := by
  unfold mayB; rw [small_out h]; simp
theorem may_in {op x a b : Int} (h4 : kindOf op ≠ 4) (h1 : 0 ≤ a) (h2 : a ≤ 65535) (h3 : 0 ≤ b) (h5 : b ≤ 65535) : mayB op x a b = ((hasB op 120 || decide (x = 0)) && (hasB op 97 || decide (a = 0)) && (hasB op 98 || decide (b = 0))) := by
  obtain ⟨e1, e2, e3⟩ := has_xs op
  unfold mayB
  rw [small_in h1 h2, small_in h3 h5, e1, e2, e3]
  unfold shOk shX shN
  have h : kindOf op ≤ 4 := kind_le op
  generalize kindOf op = n at h h4
  match n, h, h4 with
  | 0, _, _ => rfl
  | 1, _, _ => rfl
  | 2, _, _ => rfl
  | 3, _, _ => rfl
  | 4, _, h => exact absurd rfl h
theorem tell_ne {κ : Nat} (h : κ ≤ 4) (h4 : κ ≠ 4) : ¬ (tellS κ).toList = [45] := by
  match κ, h, h4 with
  | 0, _, _ => rw [ByteArray.toList_eq]; decide
  | 1, _, _ => rw [ByteArray.toList_eq]; decide
  | 2, _, _ => rw [ByteArray.toList_eq]; decide
  | 3, _, _ => rw [ByteArray.toList_eq]; decide
  | 4, _, h => exact absurd rfl h
theorem cells4 {w w1 : World} {u0 u1 u2 u3 : Value} {T : TypeId} (h : Below (w.alloc (.cells #[u0, u1, u2, u3] T)).heap.size (w.alloc (.cells #[u0, u1, u2, u3] T)) w1) :
    w1.cell? ⟨w.heap.size, 0, none⟩ = some u0 ∧ w1.cell? ⟨w.heap.size, 1, none⟩ = some u1 ∧ w1.cell? ⟨w.heap.size, 2, none⟩ = some u2 ∧ w1.cell? ⟨w.heap.size, 3, none⟩ = some u3 := by
  have hs : w.heap.size < (w.alloc (.cells #[u0, u1, u2, u3] T)).heap.size := by simp
  refine ⟨?_, ?_, ?_, ?_⟩
  · rw [h.cell (p := ⟨w.heap.size, 0, none⟩) hs, World.cell?_alloc_new]; rfl
  · rw [h.cell (p := ⟨w.heap.size, 1, none⟩) hs, World.cell?_alloc_new]; rfl
  · rw [h.cell (p := ⟨w.heap.size, 2, none⟩) hs, World.cell?_alloc_new]; rfl
  · rw [h.cell (p := ⟨w.heap.size, 3, none⟩) hs, World.cell?_alloc_new]; rfl
set_option maxHeartbeats 2000000 in
theorem rmay_any (op x a b : Int) (w : World) : Calls Tryd.prog 15 #[.agg #[.int .i64 op, .int .u64 x, .int .i64 a, .int .i64 b]] w fun e w' => e = .returned (.bool (mayB op x a b)) ∧ Below w.heap.size w w' := by
  have hB : Below w.heap.size w (w.alloc (.cells #[.int .i64 op, .int .u64 x, .int .i64 a, .int .i64 b] 42)) := b_alloc (Below.refl _ _) _
  go_enter Tryd.func15, Tryd.ntmps15
  go_wp2_with fail
  refine (told_any _ _).mono ?_
  rintro e w1 ⟨rfl, hb1⟩
  obtain ⟨c0, c1, c2, c3⟩ := cells4 hb1
  have hB1 : Below w.heap.size w w1 := b_call hB hb1
  have kle := kind_le op
  obtain ⟨κ, hκ⟩ : ∃ κ, κ = kindOf op := ⟨_, rfl⟩
  rw [← hκ] at kle ⊢
  by_cases h4 : κ = 4
  · subst h4
    rw [show tellS 4 = ⟨#[45]⟩ from rfl]
    go_wp2_with fail
    go_ret
    exact ⟨by rw [may_four hκ.symm]; rfl, hB1⟩
  · have hs : ¬ (tellS κ).toList = [45] := tell_ne kle h4
    have hs2 : ((tellS κ).toList == [45]) = false := beq_false_of_ne hs
    rcases (show a < 0 ∨ (0 ≤ a ∧ 65535 < a) ∨ (0 ≤ a ∧ a ≤ 65535) by omega) with ha | ⟨ha1, ha2⟩ | ⟨ha1, ha2⟩
    · have M := Lib.hid (may_outA (op := op) (x := x) (b := b) (Or.inl ha))
      have HK := Lib.hid hκ; clear hκ
      go_wp2_with fail
      all_goals (go_ret; exact ⟨by rw [M.out]; rfl, hB1⟩)
    · have M := Lib.hid (may_outA (op := op) (x := x) (b := b) (Or.inr ha2))
      have HK := Lib.hid hκ; clear hκ
      go_wp2_with fail
      all_goals (go_ret; exact ⟨by rw [M.out]; rfl, hB1⟩)
    · rcases (show b < 0 ∨ (0 ≤ b ∧ 65535 < b) ∨ (0 ≤ b ∧ b ≤ 65535) by omega) with hb | ⟨hb3, hb4⟩ | ⟨hb3, hb4⟩
      · have M := Lib.hid (may_outB (op := op) (x := x) (a := a) (Or.inl hb))
        have HK := Lib.hid hκ; clear hκ
        go_wp2_with fail
        all_goals (go_ret; exact ⟨by rw [M.out]; rfl, hB1⟩)
      · have M := Lib.hid (may_outB (op := op) (x := x) (a := a) (Or.inr hb4))
        have HK := Lib.hid hκ; clear hκ
        go_wp2_with fail
        all_goals (go_ret; exact ⟨by rw [M.out]; rfl, hB1⟩)
      · have M := Lib.hid (may_in (x := x) (hκ ▸ h4) ha1 ha2 hb3 hb4)
        have HK := Lib.hid hκ; clear hκ
        go_wp2_with fail
        refine (has_any _ _ _).mono ?_
        rintro e w2 ⟨rfl, hb2⟩
        have hB2 : Below w.heap.size w w2 := b_call hB1 hb2
        replace hb2 := b_call hb1 hb2
        clear c0 c1 c2 c3
        obtain ⟨c0, c1, c2, c3⟩ := cells4 hb2
        generalize hasB op 120 = q0 at M ⊢
        rcases (show q0 = true ∨ (q0 = false ∧ x = 0) ∨ (q0 = false ∧ (x == 0) = false) by cases q0 <;> by_cases h : x = 0 <;> simp [h]) with rfl | ⟨rfl, rfl⟩ | ⟨rfl, hz⟩
        · go_wp2_with fail
          refine (has_any _ _ _).mono ?_
          rintro e w3 ⟨rfl, hb3⟩
          have hB3 : Below w.heap.size w w3 := b_call hB2 hb3
          replace hb3 := b_call hb2 hb3
          clear c0 c1 c2 c3
          obtain ⟨c0, c1, c2, c3⟩ := cells4 hb3
          generalize hasB op 97 = q1 at M ⊢
          rcases (show q1 = true ∨ (q1 = false ∧ a = 0) ∨ (q1 = false ∧ (a == 0) = false) by cases q1 <;> by_cases h : a = 0 <;> simp [h]) with rfl | ⟨rfl, rfl⟩ | ⟨rfl, hz⟩
          · go_wp2_with fail
            refine (has_any _ _ _).mono ?_
            rintro e w4 ⟨rfl, hb4⟩
            have hB4 : Below w.heap.size w w4 := b_call hB3 hb4
            replace hb4 := b_call hb3 hb4
            clear c0 c1 c2 c3
            obtain ⟨c0, c1, c2, c3⟩ := cells4 hb4
            generalize hasB op 98 = q2 at M ⊢
            rcases (show q2 = true ∨ (q2 = false ∧ b = 0) ∨ (q2 = false ∧ (b == 0) = false) by cases q2 <;> by_cases h : b = 0 <;> simp [h]) with rfl | ⟨rfl, rfl⟩ | ⟨rfl, hz⟩
            · go_wp2_with fail
              go_ret
              exact ⟨by rw [M.out]; rfl, hB4⟩
            · go_wp2_with fail
              go_ret
              exact ⟨by rw [M.out]; rfl, hB4⟩
            · have M2 := M.out; have hz2 := hz; rw [show (b == 0) = decide (b = 0) from rfl] at hz2; rw [hz2] at M2; simp only [Bool.or_self, Bool.and_false, Bool.false_and, Bool.false_or, Bool.or_false] at M2; clear hz2
              replace M := Lib.hid M2; clear M2
              go_wp2_with fail
              go_ret
              exact ⟨by rw [M.out]; rfl, hB4⟩
          · go_wp2_with fail
            refine (has_any _ _ _).mono ?_
            rintro e w4 ⟨rfl, hb4⟩
            have hB4 : Below w.heap.size w w4 := b_call hB3 hb4
            replace hb4 := b_call hb3 hb4
            clear c0 c1 c2 c3
            obtain ⟨c0, c1, c2, c3⟩ := cells4 hb4
            generalize hasB op 98 = q2 at M ⊢
            rcases (show q2 = true ∨ (q2 = false ∧ b = 0) ∨ (q2 = false ∧ (b == 0) = false) by cases q2 <;> by_cases h : b = 0 <;> simp [h]) with rfl | ⟨rfl, rfl⟩ | ⟨rfl, hz⟩
            · go_wp2_with fail
              go_ret
              exact ⟨by rw [M.out]; rfl, hB4⟩
            · go_wp2_with fail
              go_ret
              exact ⟨by rw [M.out]; rfl, hB4⟩
            · have M2 := M.out; have hz2 := hz; rw [show (b == 0) = decide (b = 0) from rfl] at hz2; rw [hz2] at M2; simp only [Bool.or_self, Bool.and_false, Bool.false_and, Bool.false_or, Bool.or_false] at M2; clear hz2
              replace M := Lib.hid M2; clear M2
              go_wp2_with fail
              go_ret
              exact ⟨by rw [M.out]; rfl, hB4⟩
          · have M2 := M.out; have hz2 := hz; rw [show (a == 0) = decide (a = 0) from rfl] at hz2; rw [hz2] at M2; simp only [Bool.or_self, Bool.and_false, Bool.false_and, Bool.false_or, Bool.or_false] at M2; clear hz2
            replace M := Lib.hid M2; clear M2
            go_wp2_with fail
            go_ret
            exact ⟨by rw [M.out]; rfl, hB3⟩
        · go_wp2_with fail
          refine (has_any _ _ _).mono ?_
          rintro e w3 ⟨rfl, hb3⟩
          have hB3 : Below w.heap.size w w3 := b_call hB2 hb3
          replace hb3 := b_call hb2 hb3
          clear c0 c1 c2 c3
          obtain ⟨c0, c1, c2, c3⟩ := cells4 hb3
          generalize hasB op 97 = q1 at M ⊢
          rcases (show q1 = true ∨ (q1 = false ∧ a = 0) ∨ (q1 = false ∧ (a == 0) = false) by cases q1 <;> by_cases h : a = 0 <;> simp [h]) with rfl | ⟨rfl, rfl⟩ | ⟨rfl, hz⟩
          · go_wp2_with fail
            refine (has_any _ _ _).mono ?_
            rintro e w4 ⟨rfl, hb4⟩
            have hB4 : Below w.heap.size w w4 := b_call hB3 hb4
            replace hb4 := b_call hb3 hb4
            clear c0 c1 c2 c3
            obtain ⟨c0, c1, c2, c3⟩ := cells4 hb4
            generalize hasB op 98 = q2 at M ⊢
            rcases (show q2 = true ∨ (q2 = false ∧ b = 0) ∨ (q2 = false ∧ (b == 0) = false) by cases q2 <;> by_cases h : b = 0 <;> simp [h]) with rfl | ⟨rfl, rfl⟩ | ⟨rfl, hz⟩
            · go_wp2_with fail
              go_ret
              exact ⟨by rw [M.out]; rfl, hB4⟩
            · go_wp2_with fail
              go_ret
              exact ⟨by rw [M.out]; rfl, hB4⟩
            · have M2 := M.out; have hz2 := hz; rw [show (b == 0) = decide (b = 0) from rfl] at hz2; rw [hz2] at M2; simp only [Bool.or_self, Bool.and_false, Bool.false_and, Bool.false_or, Bool.or_false] at M2; clear hz2
              replace M := Lib.hid M2; clear M2
              go_wp2_with fail
              go_ret
              exact ⟨by rw [M.out]; rfl, hB4⟩
          · go_wp2_with fail
            refine (has_any _ _ _).mono ?_
            rintro e w4 ⟨rfl, hb4⟩
            have hB4 : Below w.heap.size w w4 := b_call hB3 hb4
            replace hb4 := b_call hb3 hb4
            clear c0 c1 c2 c3
            obtain ⟨c0, c1, c2, c3⟩ := cells4 hb4
            generalize hasB op 98 = q2 at M ⊢
            rcases (show q2 = true ∨ (q2 = false ∧ b = 0) ∨ (q2 = false ∧ (b == 0) = false) by cases q2 <;> by_cases h : b = 0 <;> simp [h]) with rfl | ⟨rfl, rfl⟩ | ⟨rfl, hz⟩
            · go_wp2_with fail
              go_ret
              exact ⟨by rw [M.out]; rfl, hB4⟩
            · go_wp2_with fail
              go_ret
              exact ⟨by rw [M.out]; rfl, hB4⟩
            · have M2 := M.out; have hz2 := hz; rw [show (b == 0) = decide (b = 0) from rfl] at hz2; rw [hz2] at M2; simp only [Bool.or_self, Bool.and_false, Bool.false_and, Bool.false_or, Bool.or_false] at M2; clear hz2
              replace M := Lib.hid M2; clear M2
              go_wp2_with fail
              go_ret
              exact ⟨by rw [M.out]; rfl, hB4⟩
          · have M2 := M.out; have hz2 := hz; rw [show (a == 0) = decide (a = 0) from rfl] at hz2; rw [hz2] at M2; simp only [Bool.or_self, Bool.and_false, Bool.false_and, Bool.false_or, Bool.or_false] at M2; clear hz2
            replace M := Lib.hid M2; clear M2
            go_wp2_with fail
            go_ret
            exact ⟨by rw [M.out]; rfl, hB3⟩
        · have M2 := M.out; have hz2 := hz; rw [show (x == 0) = decide (x = 0) from rfl] at hz2; rw [hz2] at M2; simp only [Bool.or_self, Bool.and_false, Bool.false_and, Bool.false_or, Bool.or_false] at M2; clear hz2
          replace M := Lib.hid M2; clear M2
          go_wp2_with fail
          go_ret
          exact ⟨by rw [M.out]; rfl, hB2⟩
end
end Go.Proofs.YtedmjlhgpdeafaaDoor
