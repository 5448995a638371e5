/- Layer 25: a program's bytes, as lists; rows of bytes kept apart from all else. No conditions beside those stated. -/
import Derived.Test.YtedmjlhgpdeafaaDoorQMayPa
import Derived.Test.YtedmjlhgpdeafaaDoorQInstrBytesLaw
import Derived.Laws.OwnMore
namespace Go.Proofs.YtedmjlhgpdeafaaDoor
open Go.RowKit
set_option linter.unusedVariables false
set_option linter.unusedSimpArgs false
def lstB (l : List Int) : List Int := [(l.length : Int) % 256] ++ l.map (· % 256)
def lstK (l : List Int) (k : Nat) : List Int := [(l.length : Int) % 256] ++ (l.take k).map (· % 256)
def bytIn (i : In4) : List Int := bytesI i.op i.x i.a i.b
def bytF (f : FnM) : List Int := lstB f.ps ++ lstB f.ls ++ [f.r % 256, (f.code.length : Int) % 256] ++ f.code.flatMap bytIn
def headP (u : Bool) : List Int := [84, 77, 66, 49, if u then 1 else 0]
def bytP (p : PrM) : List Int := headP p.u ++ lstB p.gl ++ [p.m % 256, (p.fs.length : Int) % 256] ++ p.fs.flatMap bytF
def GoodIn (i : In4) : Prop := 0 ≤ i.x ∧ i.x < 18446744073709551616
def GoodP (p : PrM) : Prop := ∀ f ∈ p.fs, ∀ i ∈ f.code, GoodIn i
theorem lstB_length (l : List Int) : (lstB l).length = l.length + 1 := by unfold lstB; simp
theorem lstK_zero (l : List Int) : lstK l 0 = [(l.length : Int) % 256] := by unfold lstK; simp
theorem lstK_succ {l : List Int} {k : Nat} (h : k < l.length) : lstK l (k + 1) = lstK l k ++ [l.getD k 0 % 256] := by
  unfold lstK
  rw [List.take_succ_eq_append_getElem h, List.map_append, List.append_assoc, List.getD_eq_getElem?_getD, List.getElem?_eq_getElem h]; rfl
theorem lstK_all {l : List Int} {k : Nat} (h : l.length ≤ k) : lstK l k = lstB l := by unfold lstK lstB; rw [List.take_of_length_le h]
theorem lstK_len (l : List Int) (k : Nat) : (lstK l k).length ≤ l.length + 1 := by unfold lstK; simp; omega
theorem bytIn_le (i : In4) : (bytIn i).length ≤ 13 := by
  unfold bytIn; rw [bytesI_sz]; unfold szR
  rcases kinds i.op with ⟨_, k2, k3⟩ | ⟨_, k2, k3⟩ | ⟨_, k2, k3⟩ | ⟨_, k2, k3⟩ | ⟨_, k2, k3⟩ <;> rw [k2, k3] <;> decide
theorem flat_le {α : Type} {f : α → List Int} {c : Nat} : ∀ {L : List α} (_ : ∀ x ∈ L, (f x).length ≤ c), (L.flatMap f).length ≤ c * L.length
  | [], _ => by simp
  | x :: l, h => by
    have h1 := h x (List.mem_cons_self ..)
    have h2 := flat_le (L := l) (fun y hy => h y (List.mem_cons_of_mem _ hy))
    rw [List.flatMap_cons, List.length_append, List.length_cons, Nat.mul_succ]; omega
theorem flat_snoc {α : Type} {f : α → List Int} {L : List α} {k : Nat} (h : k < L.length) : (L.take (k + 1)).flatMap f = (L.take k).flatMap f ++ f L[k] := by
  rw [List.take_succ_eq_append_getElem h, List.flatMap_append]; simp
/-- What a function that may be is. -/
structure OkF (f : FnM) : Prop where
  p : f.ps.length ≤ 8
  l : f.ls.length ≤ 8
  r : 0 ≤ f.r ∧ f.r ≤ 3
  c1 : 1 ≤ f.code.length
  c2 : f.code.length ≤ 96
  i : ∀ i ∈ f.code, mayI i = true
  kp : ∀ x ∈ f.ps, 0 ≤ x ∧ x ≤ 3
  kl : ∀ x ∈ f.ls, 0 ≤ x ∧ x ≤ 3
  pl : f.ps.length + f.ls.length ≤ 8
theorem kinds_all {xs : List Int} {most : Int} (h : kindsB xs most = true) : (∀ x ∈ xs, 0 ≤ x ∧ x ≤ 3) ∧ (xs.length : Int) ≤ most := by
  unfold kindsB at h
  rw [Bool.and_eq_true] at h
  refine ⟨fun x hx => ?_, of_decide_eq_true h.2⟩
  have := List.all_eq_true.1 h.1 x hx
  unfold kindB at this
  rw [Bool.and_eq_true] at this
  exact ⟨of_decide_eq_true this.1, of_decide_eq_true this.2⟩
theorem okF_of {f : FnM} (h : mayF f = true) : OkF f := by
  unfold mayF at h
  simp only [Bool.and_eq_true] at h
  obtain ⟨h1, h2, h3, h4, h5, h6, h7⟩ := h
  obtain ⟨a1, a2⟩ := kinds_all h1
  obtain ⟨b1, b2⟩ := kinds_all h2
  have h3 := of_decide_eq_true h3
  have h4 := of_decide_eq_true h4
  have h5 := of_decide_eq_true h5
  have h6 := of_decide_eq_true h6
  exact ⟨by omega, by omega, ⟨h3, h4⟩, h5, h6, fun i hi => List.all_eq_true.1 h7 i hi, a1, b1, by omega⟩
structure OkP (p : PrM) : Prop where
  f1 : 1 ≤ p.fs.length
  f2 : p.fs.length ≤ 16
  m : 0 ≤ p.m ∧ p.m ≤ 4
  g : p.gl.length ≤ 8
  kg : ∀ x ∈ p.gl, 0 ≤ x ∧ x ≤ 3
  f : ∀ f ∈ p.fs, OkF f
theorem okP_of {p : PrM} (h : mayP p = true) : OkP p := by
  unfold mayP at h
  simp only [Bool.and_eq_true] at h
  obtain ⟨h1, h2, h3, h4, h5, h6⟩ := h
  obtain ⟨a1, a2⟩ := kinds_all h5
  have h1 := of_decide_eq_true h1
  have h2 := of_decide_eq_true h2
  have h3 := of_decide_eq_true h3
  have h4 := of_decide_eq_true h4
  exact ⟨h1, h2, ⟨h3, h4⟩, by omega, a1, fun f hf => okF_of (List.all_eq_true.1 h6 f hf)⟩
theorem code_len {c : List In4} (k : Nat) (h : c.length ≤ 96) : ((c.take k).flatMap bytIn).length ≤ 1248 := by
  have h1 := flat_le (f := bytIn) (c := 13) (L := c.take k) (fun i _ => bytIn_le i)
  have h2 : (c.take k).length ≤ 96 := by simp; omega
  have := Nat.mul_le_mul_left 13 h2; omega
theorem bytF_len {f : FnM} (h : OkF f) : (bytF f).length ≤ 1268 := by
  have h1 := code_len f.code.length h.c2
  rw [List.take_length] at h1
  unfold bytF
  simp only [List.length_append, lstB_length, List.length_cons, List.length_nil]
  have := h.p; have := h.l; omega
theorem fs_len {fs : List FnM} (k : Nat) (h : fs.length ≤ 16) (h' : ∀ f ∈ fs, OkF f) : ((fs.take k).flatMap bytF).length ≤ 20288 := by
  have h1 := flat_le (f := bytF) (c := 1268) (L := fs.take k) (fun f hf => bytF_len (h' f (List.mem_of_mem_take hf)))
  have h2 : (fs.take k).length ≤ 16 := by simp; omega
  have := Nat.mul_le_mul_left 1268 h2; omega
def BYTT : TypeId := 5
/-- Nothing that is of another type than bytes turns. -/
def KeepB (w w' : World) : Prop := w.heap.size ≤ w'.heap.size ∧ ∀ k, k < w.heap.size → tyB w k ≠ some BYTT → w'.heap[k]? = w.heap[k]?
theorem keepB_below {w w' : World} (hb : Below w.heap.size w w') : KeepB w w' := ⟨hb.size, fun k hk _ => hb.block k hk⟩
theorem keepB_trans {a b c : World} (h : KeepB a b) (h' : KeepB b c) : KeepB a c := ⟨Nat.le_trans h.1 h'.1, fun k hk hT => by
  have e := h.2 k hk hT
  rw [h'.2 k (Nat.lt_of_lt_of_le hk h.1) (by rw [tyB_block e]; exact hT), e]⟩
theorem ownB_ty {w : World} {B : Nat} {v : Value} {xs : List Int} (h : OwnB w B v xs) : ∀ k, v.ownBlock = some k → tyB w k = some BYTT := fun k hk => by
  rcases h.2 with ⟨rfl, _⟩ | ⟨g, cap, cur, rfl, _, hh, _⟩
  · cases hk
  · have e : g = k := by have e1 : some g = some k := hk; injection e1
    subst e
    unfold tyB; rw [hh]; rfl
theorem keepB_own {w w' : World} {v : Value} {xs : List Int} {B : Nat} (own : OwnB w B v xs) (hg : w.grownBy w' v.ownBlock) : KeepB w w' := ⟨hg.size, fun k hk hT => hg.block k hk (fun e => hT (ownB_ty own k e.symm))⟩
theorem keepB_alloc {w w' : World} (h : KeepB w w') (o : Obj) : KeepB w (w'.alloc o) := keepB_trans h (keepB_below (b_alloc (Below.refl _ _) o))
theorem keepB_blk {w w' : World} {g : Nat} {vs : List Value} {T : TypeId} (h : Blk w g vs) (hT : tyB w g = some T) (hne : T ≠ BYTT) (hk : KeepB w w') : Blk w' g vs := by
  have e := hk.2 g h.1 (by rw [hT]; intro e; injection e with e; exact hne e)
  exact ⟨Nat.lt_of_lt_of_le h.1 hk.1, fun i hi => (World.cell?_of_block (w := w) e).trans (h.2.1 i hi), fun i => (World.frozen?_of_block (w := w) e).trans (h.2.2 i)⟩
theorem ownB_lits {w : World} {B : Nat} (xs : List Int) (cs : Array Value) (hc : cs = (byts xs).toArray) (n : Nat) (hn : n = xs.length) (hm : xs.length ≤ maxLen) (hB : B ≤ w.heap.size) : OwnB (w.alloc (.cells cs BYTT)) B (.slice (some ⟨w.heap.size, 0, none⟩) n n) xs := by
  subst hc; subst hn
  have := World.ownsRow_lit (base := B) (e := BYTT) (size := 1) w (byts xs).toArray xs.length hB hm (by simp [byts_length])
  exact this
theorem read_twoB (w : World) (x y : Int) : ReadB (w.alloc (.cells #[.int .u8 x, .int .u8 y] BYTT)) (.slice (some ⟨w.heap.size, 0, none⟩) 2 2) [x, y] :=
  readB_mk (xs := [x, y]) (Nat.le_refl _) (by unfold maxLen; decide) (by simp) (fun i hi => by
    have e : i = 0 ∨ i = 1 := by simp at hi; omega
    rcases e with rfl | rfl <;> rw [World.cell?_alloc_new] <;> rfl)
end Go.Proofs.YtedmjlhgpdeafaaDoor
