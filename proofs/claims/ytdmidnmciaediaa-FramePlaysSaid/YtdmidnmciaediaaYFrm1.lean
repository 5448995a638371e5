/- Layer 28: what values and frames are in memory, and what stands while the topmost one turns. No program in sight but the types' numbers. No conditions beside those stated. -/
import Derived.Test.YtdmidnmciaediaaYInts
import Derived.Test.YtdmidnmciaediaaYHeldE
import Derived.WalkSmall
namespace Go.Proofs.Ytdmidnmciaediaa
open Go.RowKit
set_option linter.unusedVariables false
set_option linter.unusedSimpArgs false
structure ValM where
  k : Int
  b : Int
def aggV (v : ValM) : Value := .agg #[.int .i64 v.k, .int .u64 v.b]
def valE : Elt ValM where
  cells := fun v => [.int .i64 v.k, .int .u64 v.b]
  size := 2
  pos := by decide
  len := fun _ => rfl
  one := fun r u hu => by
    simp only [List.mem_cons, List.not_mem_nil, or_false] at hu
    rcases hu with rfl | rfl <;> rfl
def VALT : TypeId := 41
def FRMT : TypeId := 63
def FRST : TypeId := 119
def FPTT : TypeId := 126
theorem valT : IsRow Try.prog 61 VALT 2 16 (.agg #[.int .i64 0, .int .u64 0]) := ⟨Try.underlying61, by kernel_rfl, by rfl⟩
/-- A row of pointers to frames. -/
def ptrE : Elt Nat where
  cells := fun b => [.pointer (some ⟨b, 0, none⟩)]
  size := 1
  pos := by decide
  len := fun _ => rfl
  one := fun r u hu => by
    simp only [List.mem_cons, List.not_mem_nil, or_false] at hu
    subst hu; rfl
theorem ptrT : IsRow Try.prog 117 FPTT 1 8 (.pointer none) := ⟨Try.underlying117, by kernel_rfl, by rfl⟩
/-- One. -/
structure FrM where
  f : Int
  at_ : Int
  loc : List ValM
  stk : List ValM
/-- Where it lies: its block; its locals' slice, its stack's. -/
structure FrD where
  b : Nat
  lv : Sl
  sv : Sl
def FrD.owns (d : FrD) (k : Nat) : Prop := d.lv.v.ownBlock = some k ∨ d.sv.v.ownBlock = some k
structure FrOk (B : Nat) (w : World) (d : FrD) (m : FrM) : Prop where
  hd : Blk w d.b [.int .i64 m.f, .int .i64 m.at_, .slice d.lv.a d.lv.n d.lv.c, .slice d.sv.a d.sv.n d.sv.c]
  ty : tyB w d.b = some FRMT
  l : OwnR valE VALT w B d.lv.v m.loc
  s : OwnR valE VALT w B d.sv.v m.stk
  ne : ∀ k, d.lv.v.ownBlock = some k → d.sv.v.ownBlock ≠ some k
  lo : B ≤ d.b
theorem frOk_ty {B : Nat} {w : World} {d : FrD} {m : FrM} (h : FrOk B w d m) : ∀ k, d.owns k → tyB w k = some VALT := fun k hk => hk.elim (ownR_ty h.l k) (ownR_ty h.s k)
theorem frOk_low {B : Nat} {w : World} {d : FrD} {m : FrM} (h : FrOk B w d m) : ∀ k, d.owns k → B ≤ k ∧ k < w.heap.size := fun k hk => hk.elim (ownR_lt h.l k) (ownR_lt h.s k)
theorem frOk_gx {B : Nat} {w w' : World} {d : FrD} {m : FrM} {X : Nat → Prop} (h : FrOk B w d m) (hg : GrowX w w' X) (h1 : ¬ X d.b) (h2 : ∀ k, d.owns k → ¬ X k) : FrOk B w' d m :=
  ⟨blk_gx h.hd hg h1, tyB_gx h.ty hg h1, ownR_gx h.l hg (fun k hk => h2 k (Or.inl hk)), ownR_gx h.s hg (fun k hk => h2 k (Or.inr hk)), h.ne, h.lo⟩
def FrD.apart (d e : FrD) : Prop := d.b ≠ e.b ∧ ∀ k, d.owns k → ¬ e.owns k
/-- One by one. -/
def FrAll (B : Nat) (w : World) : List FrD → List FrM → Prop
  | [], [] => True
  | d :: ds, m :: ms => FrOk B w d m ∧ FrAll B w ds ms
  | _, _ => False
theorem frAll_len {B : Nat} {w : World} : ∀ {ds : List FrD} {ms : List FrM}, FrAll B w ds ms → ds.length = ms.length
  | [], [], _ => rfl
  | d :: ds, m :: ms, h => by simp [frAll_len h.2]
  | [], _ :: _, h => h.elim
  | _ :: _, [], h => h.elim
theorem frAll_gx {B : Nat} {w w' : World} {X : Nat → Prop} (hg : GrowX w w' X) : ∀ {ds : List FrD} {ms : List FrM}, FrAll B w ds ms → (∀ d ∈ ds, ¬ X d.b ∧ ∀ k, d.owns k → ¬ X k) → FrAll B w' ds ms
  | [], [], _, _ => trivial
  | d :: ds, m :: ms, h, hx => ⟨frOk_gx h.1 hg (hx d (List.mem_cons_self ..)).1 (hx d (List.mem_cons_self ..)).2, frAll_gx hg h.2 (fun e he => hx e (List.mem_cons_of_mem _ he))⟩
  | [], _ :: _, h, _ => h.elim
  | _ :: _, [], h, _ => h.elim
theorem frAll_snoc {B : Nat} {w : World} {d : FrD} {m : FrM} (hd : FrOk B w d m) : ∀ {ds : List FrD} {ms : List FrM}, FrAll B w ds ms → FrAll B w (ds ++ [d]) (ms ++ [m])
  | [], [], _ => ⟨hd, trivial⟩
  | e :: ds, n :: ms, h => ⟨h.1, frAll_snoc hd h.2⟩
  | [], _ :: _, h => h.elim
  | _ :: _, [], h => h.elim
theorem frAll_last {B : Nat} {w : World} {m : FrM} : ∀ {ds : List FrD} {ms : List FrM}, FrAll B w ds (ms ++ [m]) → ∃ ds' d, ds = ds' ++ [d] ∧ FrAll B w ds' ms ∧ FrOk B w d m
  | [], [], h => h.elim
  | [], _ :: _, h => h.elim
  | [d], [], h => ⟨[], d, rfl, trivial, h.1⟩
  | d :: e :: ds, [], h => h.2.elim
  | d :: ds, n :: ms, h => by
    obtain ⟨ds', d', e, h1, h2⟩ := frAll_last (ds := ds) (ms := ms) h.2
    exact ⟨d :: ds', d', by rw [e]; rfl, ⟨h.1, h1⟩, h2⟩
theorem frAll_mem {B : Nat} {w : World} : ∀ {ds : List FrD} {ms : List FrM}, FrAll B w ds ms → ∀ d ∈ ds, ∃ m, FrOk B w d m
  | [], [], _, d, h => by cases h
  | e :: ds, n :: ms, h, d, hd => by
    rcases List.mem_cons.1 hd with rfl | hd
    · exact ⟨n, h.1⟩
    · exact frAll_mem h.2 d hd
  | [], _ :: _, h, _, _ => h.elim
  | _ :: _, [], h, _, _ => h.elim
theorem frAll_at {B : Nat} {w : World} : ∀ {ds : List FrD} {ms : List FrM}, FrAll B w ds ms → ∀ k (h : k < ds.length) (h' : k < ms.length), FrOk B w ds[k] ms[k]
  | d :: ds, m :: ms, h, 0, _, _ => h.1
  | d :: ds, m :: ms, h, k + 1, hk, hk' => frAll_at h.2 k (by simpa using hk) (by simpa using hk')
/-- A thread's: at block s; w0: the world in which the program was read. -/
structure FrsAt (w0 w : World) (s : Nat) (p : PrV) (lv : Sl) (ds : List FrD) (L : List FrM) : Prop where
  be : Below w0.heap.size w0 w
  hd : Blk w s [.bool p.u, .slice p.g.a p.g.n p.g.c, .int .i64 p.m, .slice p.f.a p.f.n p.f.c, .slice lv.a lv.n lv.c]
  ty : tyB w s = some FRST
  lo : w0.heap.size ≤ s
  row : OwnR ptrE FPTT w w0.heap.size lv.v (ds.map FrD.b)
  fr : FrAll w0.heap.size w ds L
  ap : ds.Pairwise FrD.apart
variable {w0 w w' : World} {s : Nat} {p : PrV} {lv : Sl} {ds : List FrD} {L : List FrM}
theorem frs_len (h : FrsAt w0 w s p lv ds L) : lv.n = L.length ∧ ds.length = L.length := by
  have h1 := frAll_len h.fr
  obtain ⟨a, cap, e, _⟩ := readR_len (ownR_read h.row)
  have e1 : lv.n = (ds.map FrD.b).length := by
    have e2 : Value.slice lv.a lv.n lv.c = .slice a (ds.map FrD.b).length cap := e
    injection e2
  rw [e1, List.length_map]; exact ⟨h1, h1⟩
theorem frs_row_ne (h : FrsAt w0 w s p lv ds L) {T : TypeId} {k : Nat} (hk : tyB w k = some T) (hT : FPTT ≠ T) : ∀ j, lv.v.ownBlock = some j → j ≠ k := ownR_ne h.row hk hT
/-- Nothing of them turns. -/
theorem frs_below (h : FrsAt w0 w s p lv ds L) (hb : Below w.heap.size w w') : FrsAt w0 w' s p lv ds L := by
  have hg := gx_below hb (fun _ => False)
  exact ⟨b_call h.be hb, blk_below h.hd hb, tyB_call h.ty hb, h.lo, ownR_below h.row hb, frAll_gx hg h.fr (fun d _ => ⟨fun e => e, fun _ _ e => e⟩), h.ap⟩
/-- The topmost one turns. -/
theorem frs_top {d d' : FrD} {m m' : FrM} (h : FrsAt w0 w s p lv (ds ++ [d]) (L ++ [m])) (hg : GrowX w w' (fun j => j = d.b ∨ d.owns j)) (hd : FrOk w0.heap.size w' d' m') (hb : d'.b = d.b) (hn : ∀ k, d'.owns k → d.owns k ∨ w.heap.size ≤ k) : FrsAt w0 w' s p lv (ds ++ [d']) (L ++ [m']) := by
  obtain ⟨ds', d2, e, hA, hO⟩ := frAll_last h.fr
  obtain ⟨e1, e2⟩ := List.append_inj' e (by simp)
  obtain rfl : d = d2 := by simpa using e2
  subst e1
  have hT := frOk_ty hO
  have hap := List.pairwise_append.1 h.ap
  have hlow := h.be
  have hx : ∀ k, (k = d.b ∨ d.owns k) → w0.heap.size ≤ k := fun k hk => hk.elim (fun e => by rw [e]; exact hO.lo) (fun q => (frOk_low hO k q).1)
  refine ⟨b_gx h.be hg hx, blk_gx h.hd hg ?_, tyB_gx h.ty hg ?_, h.lo, ?_, ?_, ?_⟩
  · rintro (e | e)
    · have := h.ty; rw [e, hO.ty] at this; injection this with this; exact absurd this (by decide)
    · have := hT _ e; rw [h.ty] at this; injection this with this; exact absurd this (by decide)
  · rintro (e | e)
    · have := h.ty; rw [e, hO.ty] at this; injection this with this; exact absurd this (by decide)
    · have := hT _ e; rw [h.ty] at this; injection this with this; exact absurd this (by decide)
  · have hr := ownR_gx h.row hg (fun k hk => by
      rintro (e | e)
      · exact frs_row_ne h hO.ty (by decide) k hk e
      · exact frs_row_ne h (hT k e) (by decide) k hk rfl)
    rw [List.map_append] at hr ⊢
    simpa [hb] using hr
  · refine frAll_snoc hd (frAll_gx hg hA (fun x hx => ?_))
    obtain ⟨mx, hmx⟩ := frAll_mem hA x hx
    have ha := hap.2.2 x hx d (List.mem_singleton.2 rfl)
    refine ⟨?_, fun k hk => ?_⟩
    · rintro (e | e)
      · exact ha.1 e
      · have := hT _ e; rw [hmx.ty] at this; injection this with this; exact absurd this (by decide)
    · rintro (e | e)
      · have := frOk_ty hmx k hk; rw [e, hO.ty] at this; injection this with this; exact absurd this (by decide)
      · exact ha.2 k hk e
  · refine List.pairwise_append.2 ⟨hap.1, List.pairwise_singleton _ _, fun x hx y hy => ?_⟩
    obtain rfl := List.mem_singleton.1 hy
    have ha := hap.2.2 x hx d (List.mem_singleton.2 rfl)
    obtain ⟨mx, hmx⟩ := frAll_mem hA x hx
    refine ⟨by rw [hb]; exact ha.1, fun k hk hk' => ?_⟩
    rcases hn k hk' with q | q
    · exact ha.2 k hk q
    · have := (frOk_low hmx k hk).2; omega
/-- One more, that is new. -/
theorem frs_more {d : FrD} {m : FrM} {w1 : World} {lv' : Sl} (h : FrsAt w0 w s p lv ds L) (hb : Below w.heap.size w w1) (hd : FrOk w0.heap.size w1 d m) (hn1 : w.heap.size ≤ d.b) (hn2 : ∀ k, d.owns k → w.heap.size ≤ k)
    (hg : GrowX w1 w' (fun j => j = s ∨ lv.v.ownBlock = some j)) (hs : Blk w' s [.bool p.u, .slice p.g.a p.g.n p.g.c, .int .i64 p.m, .slice p.f.a p.f.n p.f.c, .slice lv'.a lv'.n lv'.c]) (hts : tyB w' s = some FRST)
    (hr : OwnR ptrE FPTT w' w0.heap.size lv'.v ((ds ++ [d]).map FrD.b)) : FrsAt w0 w' s p lv' (ds ++ [d]) (L ++ [m]) := by
  have h1 := frs_below h hb
  have hrl := ownR_lt h1.row
  refine ⟨b_gx h1.be hg (fun k hk => hk.elim (fun e => by rw [e]; exact h.lo) (fun e => (hrl k e).1)), hs, hts, h.lo, hr, ?_, ?_⟩
  · refine frAll_snoc (frOk_gx hd hg ?_ (fun k hk => ?_)) (frAll_gx hg h1.fr (fun x hx => ?_))
    · rintro (e | e)
      · have := h1.ty; rw [← e, hd.ty] at this; injection this with this; exact absurd this (by decide)
      · exact frs_row_ne h1 hd.ty (by decide) _ e rfl
    · have hk2 := frOk_ty hd k hk
      rintro (e | e)
      · have := h1.ty; rw [← e, hk2] at this; injection this with this; exact absurd this (by decide)
      · exact frs_row_ne h1 hk2 (by decide) _ e rfl
    · obtain ⟨mx, hmx⟩ := frAll_mem h1.fr x hx
      refine ⟨?_, fun k hk => ?_⟩
      · rintro (e | e)
        · have := h1.ty; rw [← e, hmx.ty] at this; injection this with this; exact absurd this (by decide)
        · exact frs_row_ne h1 hmx.ty (by decide) _ e rfl
      · have hk2 := frOk_ty hmx k hk
        rintro (e | e)
        · have := h1.ty; rw [← e, hk2] at this; injection this with this; exact absurd this (by decide)
        · exact frs_row_ne h1 hk2 (by decide) _ e rfl
  · refine List.pairwise_append.2 ⟨h.ap, List.pairwise_singleton _ _, fun x hx y hy => ?_⟩
    obtain rfl := List.mem_singleton.1 hy
    obtain ⟨mx, hmx⟩ := frAll_mem h.fr x hx
    refine ⟨by have := hmx.hd.1; omega, fun k hk hk' => ?_⟩
    have := (frOk_low hmx k hk).2
    have := hn2 k hk'
    omega
/-- A row of the call's own, but for its last one. -/
theorem ownR_pop {α : Type} {c : Elt α} {E : TypeId} {w : World} {B : Nat} {a : Option Addr} {n cap : Nat} {M : List α} {x : α} (h : OwnR c E w B (.slice a (n + 1) cap) (M ++ [x])) : OwnR c E w B (.slice a n cap) M ∧ n = M.length ∧ ∃ g, a = some ⟨g, 0, none⟩ := by
  have hl := ownR_read h
  obtain ⟨a', c', e, _⟩ := hl
  have e1 : n + 1 = (M ++ [x]).length := by injection e
  have e2 : n = M.length := by simp at e1; omega
  obtain ⟨g, cap', e3, _⟩ := ownR_form h (by simp)
  have e4 : a = some ⟨g, 0, none⟩ := by injection e3
  subst e2 e4
  refine ⟨?_, rfl, g, rfl⟩
  unfold OwnR at *
  rw [row_append, List.length_append] at h
  exact Go.ownsRow_pop (row_length c M) h
/-- The topmost one is gone. -/
theorem frs_less {d : FrD} {m : FrM} (h : FrsAt w0 w s p lv (ds ++ [d]) (L ++ [m])) : FrsAt w0 (w.setCell ⟨s, 4, none⟩ (.slice lv.a L.length lv.c)) s p ⟨lv.a, L.length, lv.c⟩ ds L := by
  obtain ⟨l1, l2⟩ := frs_len h
  obtain ⟨ds', d2, e, hA, hO⟩ := frAll_last h.fr
  obtain ⟨e1, e2⟩ := List.append_inj' e (by simp)
  obtain rfl : d = d2 := by simpa using e2
  subst e1
  have l3 := frAll_len hA
  have hg : GrowX w (w.setCell ⟨s, 4, none⟩ (.slice lv.a L.length lv.c)) (fun j => j = s) := gx_set (X := fun j => j = s) (gx_refl _ _) (Or.inr rfl) _
  have hrow := h.row
  rw [List.map_append] at hrow
  have hrow2 : OwnR ptrE FPTT w w0.heap.size (.slice lv.a (L.length + 1) lv.c) (ds.map FrD.b ++ [d.b]) := by
    have e3 : lv.v = .slice lv.a (L.length + 1) lv.c := by unfold Sl.v; rw [l1]; simp
    rw [← e3]; exact hrow
  obtain ⟨p1, p2, _⟩ := ownR_pop hrow2
  refine ⟨b_gx h.be hg (fun k hk => by rw [hk]; exact h.lo), ?_, by rw [tyB_set]; exact h.ty, h.lo, ?_, frAll_gx hg hA (fun x hx => ?_), (List.pairwise_append.1 h.ap).1⟩
  · exact blk_set h.hd 4 _
  · refine ownR_gx p1 hg (fun k hk e => ?_)
    exact ownR_ne p1 h.ty (by decide) k hk e
  · obtain ⟨mx, hmx⟩ := frAll_mem hA x hx
    refine ⟨fun e => ?_, fun k hk e => ?_⟩
    · have := h.ty; rw [← e, hmx.ty] at this; injection this with this; exact absurd this (by decide)
    · have := frOk_ty hmx k hk; rw [e, h.ty] at this; injection this with this; exact absurd this (by decide)
end Go.Proofs.Ytdmidnmciaediaa
