/- Layer 25: what programs are, in memory and as lists. No program in sight but the ints' type. No conditions. -/
import Derived.Test.YtedmjlhgpdeafaaDoorRowN
import Derived.Test.YtedmjlhgpdeafaaDoorInts
namespace Go.Proofs.YtedmjlhgpdeafaaDoor
open Go.RowKit
set_option linter.unusedVariables false
set_option linter.unusedSimpArgs false
def intE : Elt Int where
  cells := fun x => [.int .i64 x]
  size := 1
  pos := by decide
  len := fun _ => rfl
  one := fun r u hu => by
    simp only [List.mem_cons, List.not_mem_nil, or_false] at hu
    rw [hu]; rfl
theorem readI_R {w : World} {v : Value} {xs : List Int} (h : ReadI w v xs) : ReadR intE w v xs := by
  obtain ⟨a, cap, rfl, h1, h2, h3, h4⟩ := h
  refine ⟨a, cap, rfl, h1, h2, h3, fun hp => ?_⟩
  obtain ⟨b, o, rfl, h5, h6⟩ := h4 hp
  refine ⟨b, o, rfl, h5, fun k hk j hj => ?_⟩
  have hj0 : j = 0 := by have : intE.size = 1 := rfl; omega
  subst hj0
  have := h6 k hk
  rw [show k * intE.size + 0 = k by show k * 1 + 0 = k; omega, this, List.getD_eq_getElem?_getD, List.getElem?_eq_getElem hk]; rfl
theorem readR_I {w : World} {v : Value} {xs : List Int} (h : ReadR intE w v xs) : ReadI w v xs := by
  obtain ⟨a, cap, rfl, h1, h2, h3, h4⟩ := h
  refine ⟨a, cap, rfl, h1, h2, h3, fun hp => ?_⟩
  obtain ⟨b, o, rfl, h5, h6⟩ := h4 hp
  refine ⟨b, o, rfl, h5, fun k hk => ?_⟩
  have := h6 k hk 0 (by decide)
  rw [show k * intE.size + 0 = k by show k * 1 + 0 = k; omega] at this
  rw [this, List.getD_eq_getElem?_getD, List.getElem?_eq_getElem hk]; rfl
theorem rowInt : IsRow Tryd.prog 22 3 1 8 (.int .i64 0) := ⟨Tryd.underlying22, by kernel_rfl, by rfl⟩
/-- An instruction. -/
structure In4 where
  op : Int
  x : Int
  a : Int
  b : Int
def inE : Elt In4 where
  cells := fun i => [.int .i64 i.op, .int .u64 i.x, .int .i64 i.a, .int .i64 i.b]
  size := 4
  pos := by decide
  len := fun _ => rfl
  one := fun r u hu => by
    simp only [List.mem_cons, List.not_mem_nil, or_false] at hu
    rcases hu with rfl | rfl | rfl | rfl <;> rfl
def aggIn (i : In4) : Value := .agg #[.int .i64 i.op, .int .u64 i.x, .int .i64 i.a, .int .i64 i.b]
/-- A slice, as three. -/
structure Sl where
  a : Option Addr
  n : Nat
  c : Nat
def Sl.v (s : Sl) : Value := .slice s.a s.n s.c
theorem sl_of {w : World} {v : Value} {α : Type} {c : Elt α} {L : List α} (h : ReadR c w v L) : ∃ s : Sl, v = s.v ∧ s.n = L.length := by
  obtain ⟨a, cap, rfl, _⟩ := h; exact ⟨⟨a, _, cap⟩, rfl, rfl⟩
/-- A function's cells; a function. -/
structure FnV where
  p : Sl
  l : Sl
  r : Int
  c : Sl
structure FnM where
  ps : List Int
  ls : List Int
  r : Int
  code : List In4
def fnE : Elt FnV where
  cells := fun f => [f.p.v, f.l.v, .int .i64 f.r, f.c.v]
  size := 4
  pos := by decide
  len := fun _ => rfl
  one := fun f u hu => by
    simp only [List.mem_cons, List.not_mem_nil, or_false] at hu
    rcases hu with rfl | rfl | rfl | rfl <;> rfl
def aggF (f : FnV) : Value := .agg #[f.p.v, f.l.v, .int .i64 f.r, f.c.v]
structure DeepF (w : World) (v : FnV) (f : FnM) : Prop where
  p : ReadI w v.p.v f.ps
  l : ReadI w v.l.v f.ls
  r : v.r = f.r
  c : ReadR inE w v.c.v f.code
theorem deepF_below {w w' : World} {v : FnV} {f : FnM} (h : DeepF w v f) (hb : Below w.heap.size w w') : DeepF w' v f := ⟨readI_below h.p hb, readI_below h.l hb, h.r, readR_below h.c hb⟩
/-- One by one. -/
def AllF (w : World) : List FnV → List FnM → Prop
  | [], [] => True
  | v :: vs, f :: fs => DeepF w v f ∧ AllF w vs fs
  | _, _ => False
theorem allF_below {w w' : World} (hb : Below w.heap.size w w') : ∀ {vs : List FnV} {fs : List FnM}, AllF w vs fs → AllF w' vs fs
  | [], [], _ => trivial
  | v :: vs, f :: fs, h => ⟨deepF_below h.1 hb, allF_below hb h.2⟩
  | [], _ :: _, h => h.elim
  | _ :: _, [], h => h.elim
theorem allF_len {w : World} : ∀ {vs : List FnV} {fs : List FnM}, AllF w vs fs → vs.length = fs.length
  | [], [], _ => rfl
  | v :: vs, f :: fs, h => by simp [allF_len h.2]
  | [], _ :: _, h => h.elim
  | _ :: _, [], h => h.elim
theorem allF_at {w : World} : ∀ {vs : List FnV} {fs : List FnM}, AllF w vs fs → ∀ k (h : k < vs.length) (h' : k < fs.length), DeepF w vs[k] fs[k]
  | v :: vs, f :: fs, h, 0, _, _ => h.1
  | v :: vs, f :: fs, h, k + 1, hk, hk' => allF_at h.2 k (by simpa using hk) (by simpa using hk')
theorem allF_snoc {w : World} {v : FnV} {f : FnM} (hd : DeepF w v f) : ∀ {vs : List FnV} {fs : List FnM}, AllF w vs fs → AllF w (vs ++ [v]) (fs ++ [f])
  | [], [], _ => ⟨hd, trivial⟩
  | v :: vs, f :: fs, h => ⟨h.1, allF_snoc hd h.2⟩
  | [], _ :: _, h => h.elim
  | _ :: _, [], h => h.elim
theorem allF_of {w : World} : ∀ {vs : List FnV} (_ : ∀ v ∈ vs, ∃ f, DeepF w v f), ∃ fs, AllF w vs fs
  | [], _ => ⟨[], trivial⟩
  | v :: vs, h => by
    obtain ⟨f, hf⟩ := h v (List.mem_cons_self ..)
    obtain ⟨fs, hfs⟩ := allF_of (vs := vs) (fun u hu => h u (List.mem_cons_of_mem _ hu))
    exact ⟨f :: fs, hf, hfs⟩
def ReadFs (w : World) (v : Value) (fs : List FnM) : Prop := ∃ L, ReadR fnE w v L ∧ AllF w L fs
theorem readFs_below {w w' : World} {v : Value} {fs : List FnM} (h : ReadFs w v fs) (hb : Below w.heap.size w w') : ReadFs w' v fs := by
  obtain ⟨L, h1, h2⟩ := h
  exact ⟨L, readR_below h1 hb, allF_below hb h2⟩
/-- A program's cells; a program. -/
structure PrV where
  u : Bool
  g : Sl
  m : Int
  f : Sl
structure PrM where
  u : Bool
  gl : List Int
  m : Int
  fs : List FnM
def aggP (p : PrV) : Value := .agg #[.bool p.u, p.g.v, .int .i64 p.m, p.f.v]
structure ReadP (w : World) (v : PrV) (p : PrM) : Prop where
  u : v.u = p.u
  g : ReadI w v.g.v p.gl
  m : v.m = p.m
  f : ReadFs w v.f.v p.fs
theorem readP_below {w w' : World} {v : PrV} {p : PrM} (h : ReadP w v p) (hb : Below w.heap.size w w') : ReadP w' v p := ⟨h.u, readI_below h.g hb, h.m, readFs_below h.f hb⟩
/-- What 'Cut' leaves. -/
def cutF (f : FnM) : FnM := ⟨f.ps.take 10, f.ls.take 10, f.r, f.code.take 100⟩
def cutP (p : PrM) : PrM := ⟨p.u, p.gl.take 10, p.m, (p.fs.take 17).map cutF⟩
structure SmallF (f : FnM) : Prop where
  p : f.ps.length ≤ 10
  l : f.ls.length ≤ 10
  c : f.code.length ≤ 100
structure SmallP (p : PrM) : Prop where
  g : p.gl.length ≤ 10
  f : p.fs.length ≤ 17
  a : ∀ f ∈ p.fs, SmallF f
theorem small_cut (p : PrM) : SmallP (cutP p) := by
  refine ⟨by simp [cutP]; omega, by simp [cutP]; omega, fun f hf => ?_⟩
  obtain ⟨g, _, rfl⟩ := List.mem_map.1 hf
  exact ⟨by simp [cutF]; omega, by simp [cutF]; omega, by simp [cutF]; omega⟩
end Go.Proofs.YtedmjlhgpdeafaaDoor
