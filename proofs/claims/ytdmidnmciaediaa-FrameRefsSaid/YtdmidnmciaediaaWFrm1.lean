/- Layer 28: what values and frames are in memory, and what stands while the topmost one turns. No program in sight but the types' numbers. No conditions beside those stated. Layer 28: the contracts of OfInt, Zero, of, Clone of values, Len, top, New, Return, Pop, Push. Conditions: those stated. Layer 28: the contracts of Pop and Push; what they leave. Conditions: those stated. -/
import Derived.Test.YtdmidnmciaediaaWInts
import Derived.Test.YtdmidnmciaediaaWHeldE
import Derived.WalkSmall
import Derived.Test.YtdmidnmciaediaaWCut
import Derived.Deep.QuietTactic
import Derived.Deep.RegionLaw
import Derived.Deep.RegionLawGrows
namespace Go.Proofs.Ytdmidnmciaediaa
section
open Go.RowKit
set_option linter.unusedVariables false
set_option linter.unusedSimpArgs false
structure ValM where
  k : Int
  b : Int
def aggV (v : ValM) : Value := .agg #[.int .i64 v.k, .int .u64 v.b]
def valE : Elt ValM where
  cells := fun v => [.int .i64 v.k, .int .u64 v.b]
  size := 2
  pos := by decide
  len := fun _ => rfl
  one := fun r u hu => by
    simp only [List.mem_cons, List.not_mem_nil, or_false] at hu
    rcases hu with rfl | rfl <;> rfl
def VALT : TypeId := 41
def FRMT : TypeId := 63
def FRST : TypeId := 119
def FPTT : TypeId := 126
theorem valT : IsRow Try.prog 61 VALT 2 16 (.agg #[.int .i64 0, .int .u64 0]) := ⟨Try.underlying61, by kernel_rfl, by rfl⟩
/-- A row of pointers to frames. -/
def ptrE : Elt Nat where
  cells := fun b => [.pointer (some ⟨b, 0, none⟩)]
  size := 1
  pos := by decide
  len := fun _ => rfl
  one := fun r u hu => by
    simp only [List.mem_cons, List.not_mem_nil, or_false] at hu
    subst hu; rfl
theorem ptrT : IsRow Try.prog 117 FPTT 1 8 (.pointer none) := ⟨Try.underlying117, by kernel_rfl, by rfl⟩
/-- One. -/
structure FrM where
  f : Int
  at_ : Int
  loc : List ValM
  stk : List ValM
/-- Where it lies: its block; its locals' slice, its stack's. -/
structure FrD where
  b : Nat
  lv : Sl
  sv : Sl
def FrD.owns (d : FrD) (k : Nat) : Prop := d.lv.v.ownBlock = some k ∨ d.sv.v.ownBlock = some k
structure FrOk (B : Nat) (w : World) (d : FrD) (m : FrM) : Prop where
  hd : Blk w d.b [.int .i64 m.f, .int .i64 m.at_, .slice d.lv.a d.lv.n d.lv.c, .slice d.sv.a d.sv.n d.sv.c]
  ty : tyB w d.b = some FRMT
  l : OwnR valE VALT w B d.lv.v m.loc
  s : OwnR valE VALT w B d.sv.v m.stk
  ne : ∀ k, d.lv.v.ownBlock = some k → d.sv.v.ownBlock ≠ some k
  lo : B ≤ d.b
theorem frOk_ty {B : Nat} {w : World} {d : FrD} {m : FrM} (h : FrOk B w d m) : ∀ k, d.owns k → tyB w k = some VALT := fun k hk => hk.elim (ownR_ty h.l k) (ownR_ty h.s k)
theorem frOk_low {B : Nat} {w : World} {d : FrD} {m : FrM} (h : FrOk B w d m) : ∀ k, d.owns k → B ≤ k ∧ k < w.heap.size := fun k hk => hk.elim (ownR_lt h.l k) (ownR_lt h.s k)
theorem frOk_gx {B : Nat} {w w' : World} {d : FrD} {m : FrM} {X : Nat → Prop} (h : FrOk B w d m) (hg : GrowX w w' X) (h1 : ¬ X d.b) (h2 : ∀ k, d.owns k → ¬ X k) : FrOk B w' d m :=
  ⟨blk_gx h.hd hg h1, tyB_gx h.ty hg h1, ownR_gx h.l hg (fun k hk => h2 k (Or.inl hk)), ownR_gx h.s hg (fun k hk => h2 k (Or.inr hk)), h.ne, h.lo⟩
def FrD.apart (d e : FrD) : Prop := d.b ≠ e.b ∧ ∀ k, d.owns k → ¬ e.owns k
/-- One by one. -/
def FrAll (B : Nat) (w : World) : List FrD → List FrM → Prop
  | [], [] => True
  | d :: ds, m :: ms => FrOk B w d m ∧ FrAll B w ds ms
  | _, _ => False
theorem frAll_len {B : Nat} {w : World} : ∀ {ds : List FrD} {ms : List FrM}, FrAll B w ds ms → ds.length = ms.length
  | [], [], _ => rfl
  | d :: ds, m :: ms, h => by simp [frAll_len h.2]
  | [], _ :: _, h => h.elim
  | _ :: _, [], h => h.elim
theorem frAll_gx {B : Nat} {w w' : World} {X : Nat → Prop} (hg : GrowX w w' X) : ∀ {ds : List FrD} {ms : List FrM}, FrAll B w ds ms → (∀ d ∈ ds, ¬ X d.b ∧ ∀ k, d.owns k → ¬ X k) → FrAll B w' ds ms
  | [], [], _, _ => trivial
  | d :: ds, m :: ms, h, hx => ⟨frOk_gx h.1 hg (hx d (List.mem_cons_self ..)).1 (hx d (List.mem_cons_self ..)).2, frAll_gx hg h.2 (fun e he => hx e (List.mem_cons_of_mem _ he))⟩
  | [], _ :: _, h, _ => h.elim
  | _ :: _, [], h, _ => h.elim
theorem frAll_snoc {B : Nat} {w : World} {d : FrD} {m : FrM} (hd : FrOk B w d m) : ∀ {ds : List FrD} {ms : List FrM}, FrAll B w ds ms → FrAll B w (ds ++ [d]) (ms ++ [m])
  | [], [], _ => ⟨hd, trivial⟩
  | e :: ds, n :: ms, h => ⟨h.1, frAll_snoc hd h.2⟩
  | [], _ :: _, h => h.elim
  | _ :: _, [], h => h.elim
theorem frAll_last {B : Nat} {w : World} {m : FrM} : ∀ {ds : List FrD} {ms : List FrM}, FrAll B w ds (ms ++ [m]) → ∃ ds' d, ds = ds' ++ [d] ∧ FrAll B w ds' ms ∧ FrOk B w d m
  | [], [], h => h.elim
  | [], _ :: _, h => h.elim
  | [d], [], h => ⟨[], d, rfl, trivial, h.1⟩
  | d :: e :: ds, [], h => h.2.elim
  | d :: ds, n :: ms, h => by
    obtain ⟨ds', d', e, h1, h2⟩ := frAll_last (ds := ds) (ms := ms) h.2
    exact ⟨d :: ds', d', by rw [e]; rfl, ⟨h.1, h1⟩, h2⟩
theorem frAll_mem {B : Nat} {w : World} : ∀ {ds : List FrD} {ms : List FrM}, FrAll B w ds ms → ∀ d ∈ ds, ∃ m, FrOk B w d m
  | [], [], _, d, h => by cases h
  | e :: ds, n :: ms, h, d, hd => by
    rcases List.mem_cons.1 hd with rfl | hd
    · exact ⟨n, h.1⟩
    · exact frAll_mem h.2 d hd
  | [], _ :: _, h, _, _ => h.elim
  | _ :: _, [], h, _, _ => h.elim
theorem frAll_at {B : Nat} {w : World} : ∀ {ds : List FrD} {ms : List FrM}, FrAll B w ds ms → ∀ k (h : k < ds.length) (h' : k < ms.length), FrOk B w ds[k] ms[k]
  | d :: ds, m :: ms, h, 0, _, _ => h.1
  | d :: ds, m :: ms, h, k + 1, hk, hk' => frAll_at h.2 k (by simpa using hk) (by simpa using hk')
/-- A thread's: at block s; w0: the world in which the program was read. -/
structure FrsAt (w0 w : World) (s : Nat) (p : PrV) (lv : Sl) (ds : List FrD) (L : List FrM) : Prop where
  be : Below w0.heap.size w0 w
  hd : Blk w s [.bool p.u, .slice p.g.a p.g.n p.g.c, .int .i64 p.m, .slice p.f.a p.f.n p.f.c, .slice lv.a lv.n lv.c]
  ty : tyB w s = some FRST
  lo : w0.heap.size ≤ s
  row : OwnR ptrE FPTT w w0.heap.size lv.v (ds.map FrD.b)
  fr : FrAll w0.heap.size w ds L
  ap : ds.Pairwise FrD.apart
variable {w0 w w' : World} {s : Nat} {p : PrV} {lv : Sl} {ds : List FrD} {L : List FrM}
theorem frs_len (h : FrsAt w0 w s p lv ds L) : lv.n = L.length ∧ ds.length = L.length := by
  have h1 := frAll_len h.fr
  obtain ⟨a, cap, e, _⟩ := readR_len (ownR_read h.row)
  have e1 : lv.n = (ds.map FrD.b).length := by
    have e2 : Value.slice lv.a lv.n lv.c = .slice a (ds.map FrD.b).length cap := e
    injection e2
  rw [e1, List.length_map]; exact ⟨h1, h1⟩
theorem frs_row_ne (h : FrsAt w0 w s p lv ds L) {T : TypeId} {k : Nat} (hk : tyB w k = some T) (hT : FPTT ≠ T) : ∀ j, lv.v.ownBlock = some j → j ≠ k := ownR_ne h.row hk hT
/-- Nothing of them turns. -/
theorem frs_below (h : FrsAt w0 w s p lv ds L) (hb : Below w.heap.size w w') : FrsAt w0 w' s p lv ds L := by
  have hg := gx_below hb (fun _ => False)
  exact ⟨b_call h.be hb, blk_below h.hd hb, tyB_call h.ty hb, h.lo, ownR_below h.row hb, frAll_gx hg h.fr (fun d _ => ⟨fun e => e, fun _ _ e => e⟩), h.ap⟩
/-- The topmost one turns. -/
theorem frs_top {d d' : FrD} {m m' : FrM} (h : FrsAt w0 w s p lv (ds ++ [d]) (L ++ [m])) (hg : GrowX w w' (fun j => j = d.b ∨ d.owns j)) (hd : FrOk w0.heap.size w' d' m') (hb : d'.b = d.b) (hn : ∀ k, d'.owns k → d.owns k ∨ w.heap.size ≤ k) : FrsAt w0 w' s p lv (ds ++ [d']) (L ++ [m']) := by
  obtain ⟨ds', d2, e, hA, hO⟩ := frAll_last h.fr
  obtain ⟨e1, e2⟩ := List.append_inj' e (by simp)
  obtain rfl : d = d2 := by simpa using e2
  subst e1
  have hT := frOk_ty hO
  have hap := List.pairwise_append.1 h.ap
  have hlow := h.be
  have hx : ∀ k, (k = d.b ∨ d.owns k) → w0.heap.size ≤ k := fun k hk => hk.elim (fun e => by rw [e]; exact hO.lo) (fun q => (frOk_low hO k q).1)
  refine ⟨b_gx h.be hg hx, blk_gx h.hd hg ?_, tyB_gx h.ty hg ?_, h.lo, ?_, ?_, ?_⟩
  · rintro (e | e)
    · have := h.ty; rw [e, hO.ty] at this; injection this with this; exact absurd this (by decide)
    · have := hT _ e; rw [h.ty] at this; injection this with this; exact absurd this (by decide)
  · rintro (e | e)
    · have := h.ty; rw [e, hO.ty] at this; injection this with this; exact absurd this (by decide)
    · have := hT _ e; rw [h.ty] at this; injection this with this; exact absurd this (by decide)
  · have hr := ownR_gx h.row hg (fun k hk => by
      rintro (e | e)
      · exact frs_row_ne h hO.ty (by decide) k hk e
      · exact frs_row_ne h (hT k e) (by decide) k hk rfl)
    rw [List.map_append] at hr ⊢
    simpa [hb] using hr
  · refine frAll_snoc hd (frAll_gx hg hA (fun x hx => ?_))
    obtain ⟨mx, hmx⟩ := frAll_mem hA x hx
    have ha := hap.2.2 x hx d (List.mem_singleton.2 rfl)
    refine ⟨?_, fun k hk => ?_⟩
    · rintro (e | e)
      · exact ha.1 e
      · have := hT _ e; rw [hmx.ty] at this; injection this with this; exact absurd this (by decide)
    · rintro (e | e)
      · have := frOk_ty hmx k hk; rw [e, hO.ty] at this; injection this with this; exact absurd this (by decide)
      · exact ha.2 k hk e
  · refine List.pairwise_append.2 ⟨hap.1, List.pairwise_singleton _ _, fun x hx y hy => ?_⟩
    obtain rfl := List.mem_singleton.1 hy
    have ha := hap.2.2 x hx d (List.mem_singleton.2 rfl)
    obtain ⟨mx, hmx⟩ := frAll_mem hA x hx
    refine ⟨by rw [hb]; exact ha.1, fun k hk hk' => ?_⟩
    rcases hn k hk' with q | q
    · exact ha.2 k hk q
    · have := (frOk_low hmx k hk).2; omega
/-- One more, that is new. -/
theorem frs_more {d : FrD} {m : FrM} {w1 : World} {lv' : Sl} (h : FrsAt w0 w s p lv ds L) (hb : Below w.heap.size w w1) (hd : FrOk w0.heap.size w1 d m) (hn1 : w.heap.size ≤ d.b) (hn2 : ∀ k, d.owns k → w.heap.size ≤ k)
    (hg : GrowX w1 w' (fun j => j = s ∨ lv.v.ownBlock = some j)) (hs : Blk w' s [.bool p.u, .slice p.g.a p.g.n p.g.c, .int .i64 p.m, .slice p.f.a p.f.n p.f.c, .slice lv'.a lv'.n lv'.c]) (hts : tyB w' s = some FRST)
    (hr : OwnR ptrE FPTT w' w0.heap.size lv'.v ((ds ++ [d]).map FrD.b)) : FrsAt w0 w' s p lv' (ds ++ [d]) (L ++ [m]) := by
  have h1 := frs_below h hb
  have hrl := ownR_lt h1.row
  refine ⟨b_gx h1.be hg (fun k hk => hk.elim (fun e => by rw [e]; exact h.lo) (fun e => (hrl k e).1)), hs, hts, h.lo, hr, ?_, ?_⟩
  · refine frAll_snoc (frOk_gx hd hg ?_ (fun k hk => ?_)) (frAll_gx hg h1.fr (fun x hx => ?_))
    · rintro (e | e)
      · have := h1.ty; rw [← e, hd.ty] at this; injection this with this; exact absurd this (by decide)
      · exact frs_row_ne h1 hd.ty (by decide) _ e rfl
    · have hk2 := frOk_ty hd k hk
      rintro (e | e)
      · have := h1.ty; rw [← e, hk2] at this; injection this with this; exact absurd this (by decide)
      · exact frs_row_ne h1 hk2 (by decide) _ e rfl
    · obtain ⟨mx, hmx⟩ := frAll_mem h1.fr x hx
      refine ⟨?_, fun k hk => ?_⟩
      · rintro (e | e)
        · have := h1.ty; rw [← e, hmx.ty] at this; injection this with this; exact absurd this (by decide)
        · exact frs_row_ne h1 hmx.ty (by decide) _ e rfl
      · have hk2 := frOk_ty hmx k hk
        rintro (e | e)
        · have := h1.ty; rw [← e, hk2] at this; injection this with this; exact absurd this (by decide)
        · exact frs_row_ne h1 hk2 (by decide) _ e rfl
  · refine List.pairwise_append.2 ⟨h.ap, List.pairwise_singleton _ _, fun x hx y hy => ?_⟩
    obtain rfl := List.mem_singleton.1 hy
    obtain ⟨mx, hmx⟩ := frAll_mem h.fr x hx
    refine ⟨by have := hmx.hd.1; omega, fun k hk hk' => ?_⟩
    have := (frOk_low hmx k hk).2
    have := hn2 k hk'
    omega
/-- A row of the call's own, but for its last one. -/
theorem ownR_pop {α : Type} {c : Elt α} {E : TypeId} {w : World} {B : Nat} {a : Option Addr} {n cap : Nat} {M : List α} {x : α} (h : OwnR c E w B (.slice a (n + 1) cap) (M ++ [x])) : OwnR c E w B (.slice a n cap) M ∧ n = M.length ∧ ∃ g, a = some ⟨g, 0, none⟩ := by
  have hl := ownR_read h
  obtain ⟨a', c', e, _⟩ := hl
  have e1 : n + 1 = (M ++ [x]).length := by injection e
  have e2 : n = M.length := by simp at e1; omega
  obtain ⟨g, cap', e3, _⟩ := ownR_form h (by simp)
  have e4 : a = some ⟨g, 0, none⟩ := by injection e3
  subst e2 e4
  refine ⟨?_, rfl, g, rfl⟩
  unfold OwnR at *
  rw [row_append, List.length_append] at h
  exact Go.ownsRow_pop (row_length c M) h
/-- The topmost one is gone. -/
theorem frs_less {d : FrD} {m : FrM} (h : FrsAt w0 w s p lv (ds ++ [d]) (L ++ [m])) : FrsAt w0 (w.setCell ⟨s, 4, none⟩ (.slice lv.a L.length lv.c)) s p ⟨lv.a, L.length, lv.c⟩ ds L := by
  obtain ⟨l1, l2⟩ := frs_len h
  obtain ⟨ds', d2, e, hA, hO⟩ := frAll_last h.fr
  obtain ⟨e1, e2⟩ := List.append_inj' e (by simp)
  obtain rfl : d = d2 := by simpa using e2
  subst e1
  have l3 := frAll_len hA
  have hg : GrowX w (w.setCell ⟨s, 4, none⟩ (.slice lv.a L.length lv.c)) (fun j => j = s) := gx_set (X := fun j => j = s) (gx_refl _ _) (Or.inr rfl) _
  have hrow := h.row
  rw [List.map_append] at hrow
  have hrow2 : OwnR ptrE FPTT w w0.heap.size (.slice lv.a (L.length + 1) lv.c) (ds.map FrD.b ++ [d.b]) := by
    have e3 : lv.v = .slice lv.a (L.length + 1) lv.c := by unfold Sl.v; rw [l1]; simp
    rw [← e3]; exact hrow
  obtain ⟨p1, p2, _⟩ := ownR_pop hrow2
  refine ⟨b_gx h.be hg (fun k hk => by rw [hk]; exact h.lo), ?_, by rw [tyB_set]; exact h.ty, h.lo, ?_, frAll_gx hg hA (fun x hx => ?_), (List.pairwise_append.1 h.ap).1⟩
  · exact blk_set h.hd 4 _
  · refine ownR_gx p1 hg (fun k hk e => ?_)
    exact ownR_ne p1 h.ty (by decide) k hk e
  · obtain ⟨mx, hmx⟩ := frAll_mem hA x hx
    refine ⟨fun e => ?_, fun k hk e => ?_⟩
    · have := h.ty; rw [← e, hmx.ty] at this; injection this with this; exact absurd this (by decide)
    · have := frOk_ty hmx k hk; rw [e, h.ty] at this; injection this with this; exact absurd this (by decide)
end
section
open Go.RowKit
set_option linter.unusedVariables false
set_option linter.unusedSimpArgs false
attribute [local go_sem] over_cell over_frozen
def fp (b : Nat) : Value := .pointer (some ⟨b, 0, none⟩)
def intV (i : Int) : ValM := ⟨0, i % 18446744073709551616⟩
theorem vint_any (i : Int) (w : World) : Calls Try.prog 20 #[.int .i64 i] w fun e w' => e = .returned (aggV (intV i)) ∧ Below w.heap.size w w' := by
  have hk : IntKind.u64.wrap i = i % 18446744073709551616 := IntKind.wrap_u64 i
  unfold aggV intV
  simp only
  rw [← hk]
  clear hk
  go_enter Try.func20, Try.ntmps20
  go_wp2_with fail
  exact bodyPost_ret (v := .agg #[.int .i64 0, .int .u64 (IntKind.u64.wrap i)]) (by simp [results, Try.results20, go_sem]) rfl ⟨rfl, by (try simp); (repeat' (first | exact Below.refl _ _ | assumption | refine b_alloc ?_ _ | refine b_over ?_ _ | refine b_drew ?_ | refine b_call ?_ (by assumption)))⟩
theorem vzero_any (k : Int) (w : World) : Calls Try.prog 61 #[.int .i64 k] w fun e w' => e = .returned (aggV ⟨k, 0⟩) ∧ Below w.heap.size w w' := by
  unfold aggV
  go_enter Try.func61, Try.ntmps61
  go_wp2_with fail
  exact bodyPost_ret (v := .agg #[.int .i64 k, .int .u64 0]) (by simp [results, Try.results61, go_sem]) rfl ⟨rfl, by (try simp); (repeat' (first | exact Below.refl _ _ | assumption | refine b_alloc ?_ _ | refine b_over ?_ _ | refine b_drew ?_ | refine b_call ?_ (by assumption)))⟩
theorem of1_any (k b q : Int) (w : World) : Calls Try.prog 92 #[.agg #[.int .i64 k, .int .u64 b], .int .i64 q] w fun e w' => e = .returned (.bool (k == q)) ∧ Below w.heap.size w w' := by
  go_enter Try.func92, Try.ntmps92
  go_wp2_with fail
  go_ret
  exact ⟨rfl, by (try simp); (repeat' (first | exact Below.refl _ _ | assumption | refine b_alloc ?_ _ | refine b_over ?_ _ | refine b_drew ?_ | refine b_call ?_ (by assumption)))⟩
theorem valR_pos {w : World} {v : Value} {L : List ValM} (h : ReadR valE w v L) (hn : 0 < L.length) : ∃ b o cap, v = .slice (some ⟨b, o, none⟩) L.length cap ∧ L.length ≤ cap ∧ cap ≤ maxLen ∧ b < w.heap.size ∧ ∀ k, (hk : k < L.length) → w.cell? ⟨b, o + k * 2, none⟩ = some (.int .i64 L[k].k) ∧ w.cell? ⟨b, o + k * 2 + 1, none⟩ = some (.int .u64 L[k].b) := by
  obtain ⟨b, o, cap, rfl, h1, h2, h3, h4⟩ := readR_pos h hn
  exact ⟨b, o, cap, rfl, h1, h2, h3, fun k hk => ⟨h4 k hk 0 (by decide), h4 k hk 1 (by decide)⟩⟩
def kindsV (L : List ValM) : List Int := L.map ValM.k
set_option maxRecDepth 100000 in
set_option maxHeartbeats 1000000 in
theorem eqfn_any {u v : Value} {A : List ValM} {K : List Int} {w : World} (h : ReadR valE w u A) (h' : ReadI w v K) (hA : A.length ≤ 100) (hK : K.length ≤ 100) : Calls Try.prog 91 #[u, v, .func (.func 92) #[] #[]] w fun e w' => e = .returned (.bool (decide (kindsV A = K))) ∧ Below w.heap.size w w' := by
  by_cases hn : A.length = K.length
  · rcases Nat.eq_zero_or_pos A.length with hz | hz
    · have e1 : A = [] := List.eq_nil_of_length_eq_zero hz
      have e2 : K = [] := List.eq_nil_of_length_eq_zero (by omega)
      subst e1 e2
      obtain ⟨a1, c1, rfl, _, _⟩ := readR_len h
      obtain ⟨a2, c2, rfl⟩ := readI_len h'
      simp only [List.length_nil]
      clear h h' hn hz hA hK
      rw [show decide (kindsV [] = []) = true from rfl]
      go_enter Try.func91, Try.ntmps91
      go_wp2_with fail
      go_loop [17] (fun i => i = .int .i64 0) (fun _ => 0)
      case atStart => rfl
      case round =>
        subst hrel
        go_wp2_with fail
        go_ret
        exact ⟨rfl, Below.refl _ _⟩
    · obtain ⟨b1, o1, c1, rfl, _, _, l1, h1⟩ := valR_pos h hz
      obtain ⟨b2, o2, c2, rfl, _, _, l2, h2⟩ := readI_pos h' (by omega)
      have H1 := Lib.hid h1
      have H2 := Lib.hid h2
      have HN := Lib.hid hn
      have t0 : ((A.length : Int) != (K.length : Int)) = false := by rw [hn]; simp
      have hn1 : A.length ≤ K.length := by omega
      have ha2 : (A.length : Int) ≤ 100 := by omega
      clear h h' h1 h2 hn hz
      go_enter Try.func91, Try.ntmps91
      go_wp2_with fail
      go_loopw [17] (fun i wr => ∃ k : Nat, k ≤ A.length ∧ i = .int .i64 k ∧ Hid (∀ j, j < k → (kindsV A).getD j 0 = K.getD j 0) ∧ Below w.heap.size w wr) (fun i _ => A.length - (intOf i).toNat)
      case atStart => exact ⟨0, Nat.zero_le _, rfl, fun j hj => by omega, Below.refl _ _⟩
      case round =>
        obtain ⟨k, hk, rfl, hall, hbw⟩ := hrel
        by_cases hlt : k < A.length
        · obtain ⟨d0, d1⟩ := H1.out k hlt
          have d2 := H2.out k (by omega)
          rw [← (bcell hbw).1 _ _ l1] at d0 d1
          rw [← (bcell hbw).1 _ _ l2] at d2
          have k0 : (0 : Int) ≤ k := by omega
          have k1 : (k : Int) < A.length := by omega
          have k2 : (k : Int) < K.length := by omega
          have HX : Hid ((kindsV A).getD k 0 = A[k].k) := by show _ = _; unfold kindsV; rw [List.getD_eq_getElem?_getD, List.getElem?_map, List.getElem?_eq_getElem hlt]; rfl
          generalize A[k] = x at *
          obtain ⟨xk, xb⟩ := x
          simp only at d0 d1 HX
          obtain ⟨y, hy⟩ : ∃ y, y = K.getD k 0 := ⟨_, rfl⟩
          rw [← hy] at d2
          have HY := Lib.hid hy
          have hl1 := Nat.lt_of_lt_of_le l1 hbw.size
          have hl2 := Nat.lt_of_lt_of_le l2 hbw.size
          clear hy
          by_cases hxy : xk = y
          · have t : (xk == y) = true := by rw [beq_iff_eq]; exact hxy
            have E := Lib.hid hxy
            clear hxy
            go_wp2_with fail
            refine (of1_any _ _ _ _).mono ?_
            rintro e w2 ⟨rfl, hb2⟩
            have hB2 := b_call (b_alloc hbw _) hb2
            rw [t]
            go_wp2_with fail
            go_roundw
            case rel => exact ⟨k + 1, by omega, by go_num, fun j hj => by
              rcases Nat.lt_or_ge j k with q | q
              · exact hall.out j q
              · have e : j = k := by omega
                rw [e, HX.out, ← HY.out]; exact E.out, hB2⟩
            case measure => simp only [intOf]; omega
          · have t : (xk == y) = false := by rw [beq_eq_false_iff_ne]; exact hxy
            have E := Lib.hid hxy
            have ED : Hid (decide (kindsV A = K) = false) := by
              show _ = _
              rw [decide_eq_false_iff_not]
              intro e
              apply hxy
              rw [← HX.out, HY.out, e]
            clear hxy
            go_wp2_with fail
            refine (of1_any _ _ _ _).mono ?_
            rintro e w2 ⟨rfl, hb2⟩
            have hB2 := b_call (b_alloc hbw _) hb2
            rw [t]
            go_wp2_with fail
            go_ret
            exact ⟨by rw [ED.out]; rfl, hB2⟩
        · have ED : Hid (decide (kindsV A = K) = true) := by
            show _ = _
            rw [decide_eq_true_iff]
            have hl : (kindsV A).length = K.length := by unfold kindsV; rw [List.length_map]; exact HN.out
            apply List.ext_getElem hl
            intro i h1 h2
            have := hall.out i (by have := HN.out; omega)
            rwa [List.getD_eq_getElem?_getD, List.getD_eq_getElem?_getD, List.getElem?_eq_getElem h1, List.getElem?_eq_getElem h2] at this
          go_wp2_with fail
          go_ret
          exact ⟨by rw [ED.out]; rfl, hbw⟩
  · have t0 : ((A.length : Int) != (K.length : Int)) = true := by rw [bne_iff_ne]; omega
    have e : decide (kindsV A = K) = false := by
      rw [decide_eq_false_iff_not]
      intro e
      apply hn
      rw [← e]; unfold kindsV; rw [List.length_map]
    rw [e]
    obtain ⟨a1, c1, rfl, _, _⟩ := readR_len h
    obtain ⟨a2, c2, rfl⟩ := readI_len h'
    clear h h' hn e
    go_enter Try.func91, Try.ntmps91
    go_wp2_with fail
    go_ret
    exact ⟨rfl, Below.refl _ _⟩
theorem of_any {u v : Value} {A : List ValM} {K : List Int} {w : World} (h : ReadR valE w u A) (h' : ReadI w v K) (hA : A.length ≤ 100) (hK : K.length ≤ 100) : Calls Try.prog 59 #[u, v] w fun e w' => e = .returned (.bool (decide (kindsV A = K))) ∧ Below w.heap.size w w' := by
  have HE := Lib.hid (eqfn_any h h' hA hK)
  clear h h'
  go_enter Try.func59, Try.ntmps59
  go_wp2_with fail
  refine HE.out.mono ?_
  rintro e w1 ⟨rfl, hb1⟩
  go_wp2_with fail
  go_ret
  exact ⟨rfl, hb1⟩
/-- A row that the call has made: a copy. -/
def NewVal (w : World) (L : List ValM) (e : Ending) (w' : World) : Prop := ∃ s : Sl, e = .returned s.v ∧ OwnR valE VALT w' w.heap.size s.v L ∧ Below w.heap.size w w'
theorem vclone_any {w : World} {s : Sl} {L : List ValM} (h : ReadR valE w s.v L) (hl : L.length ≤ 100) : Calls Try.prog 60 #[.slice s.a s.n s.c] w (NewVal w L) := by
  have HL := Lib.hid hl
  obtain ⟨a, n, c⟩ := s
  have h' : ReadR valE w (.slice a n c) L := h
  obtain ⟨a', c', e, h1, h2, h3, h4⟩ := h'
  have hr : ReadR valE w (.slice a' L.length c') L := ⟨a', c', rfl, h1, h2, h3, h4⟩
  injection e with e1 e2 e3
  subst e1 e2 e3
  simp only
  clear h h4
  cases a with
  | none =>
    obtain rfl := h3 rfl
    have e : L = [] := List.eq_nil_of_length_eq_zero (Nat.le_zero.1 h1)
    subst e
    simp only [List.length_nil]
    have t0 := fun (w : World) => Lib.run_eql_slice_nil (P := Try.prog) w 61 VALT none 0 0 0 0 Try.underlying61
    simp only [Option.isNone_none] at t0
    clear hr h1 h2 h3
    go_enter Try.func60, Try.ntmps60
    go_wp2_with fail
    go_ret
    exact ⟨⟨none, 0, 0⟩, rfl, ownR_nil _ _, Below.refl _ _⟩
  | some ad =>
    have t0 := fun (w : World) => Lib.run_eql_slice_nil (P := Try.prog) w 61 VALT (some ad) L.length c 0 0 Try.underlying61
    simp only [Option.isNone_some] at t0
    clear h3 h1 h2
    rcases Nat.eq_zero_or_pos L.length with hz | hz
    · have e : L = [] := List.eq_nil_of_length_eq_zero hz
      subst e
      simp only [List.length_nil] at t0
      simp only [List.length_nil]
      clear hr hz hl
      go_enter Try.func60, Try.ntmps60
      go_wp2_with (at_builtin; refine appendR0 (c := valE) valT rfl _ _ rfl w.heap.size ad c rfl rfl ?_)
      go_ret
      exact ⟨⟨some ⟨w.heap.size, 0, none⟩, 0, 0⟩, rfl, own_emptyR (Nat.le_refl _), b_alloc (Below.refl _ _) _⟩
    · go_enter Try.func60, Try.ntmps60
      go_wp2_with (at_builtin; refine appendR (c := valE) valT rfl _ _ rfl w.heap.size _ [] rfl (own_emptyR (Nat.le_refl _)) _ L rfl (readR_below hr (b_alloc (Below.refl _ _) _)) ?c1 ?c2 ?c3 ?_; (case c1 => (have := HL.out; simp only [List.length_nil]; omega)); (case c2 => (unfold maxLen; have := HL.out; simp only [List.length_nil]; omega)); (case c3 => (simp)); intro v1 w1 hown1 hg1)
      rw [List.nil_append] at hown1
      obtain ⟨g', cap1, rfl, f1, f2, f3, f4, f5⟩ := ownR_form hown1 hz
      go_ret
      exact ⟨⟨some ⟨g', 0, none⟩, L.length, cap1⟩, rfl, hown1, b_ownR (b_alloc (Below.refl _ _) _) (own_emptyR (c := valE) (E := VALT) (Nat.le_refl _)) hg1⟩
theorem flen_any {w0 w : World} {s : Nat} {p : PrV} {lv : Sl} {ds : List FrD} {L : List FrM} (h : FrsAt w0 w s p lv ds L) : Calls Try.prog 21 #[fp s] w fun e w' => e = .returned (.int .i64 L.length) ∧ w = w' := by
  obtain ⟨l1, _⟩ := frs_len h
  have hc := h.hd.2.1 4 (by simp)
  have hc4 : w.cell? ⟨s, 4, none⟩ = some (.slice lv.a L.length lv.c) := by rw [← l1]; exact hc
  unfold fp
  clear h hc l1
  go_enter Try.func21, Try.ntmps21
  go_wp2_with fail
  go_ret
  exact ⟨rfl, rfl⟩
theorem ftop_none {w0 w : World} {s : Nat} {p : PrV} {lv : Sl} {ds : List FrD} (h : FrsAt w0 w s p lv ds []) : Calls Try.prog 62 #[fp s] w fun e w' => e = .returned (.tuple #[.pointer none, .int .i64 6]) ∧ w = w' := by
  have HL := Lib.hid (flen_any h)
  unfold fp at *
  clear h
  go_enter Try.func62, Try.ntmps62
  go_wp2_with fail
  refine HL.out.mono ?_
  rintro e w1 ⟨rfl, rfl⟩
  go_wp2_with fail
  go_ret2
  exact ⟨rfl, rfl⟩
theorem ftop_any {w0 w : World} {s : Nat} {p : PrV} {lv : Sl} {ds : List FrD} {L : List FrM} {d : FrD} {m : FrM} (h : FrsAt w0 w s p lv (ds ++ [d]) (L ++ [m])) : Calls Try.prog 62 #[fp s] w fun e w' => e = .returned (.tuple #[fp d.b, .int .i64 0]) ∧ w = w' := by
  have HL := Lib.hid (flen_any h)
  obtain ⟨l1, l2⟩ := frs_len h
  have hc := h.hd.2.1 4 (by simp)
  have hrow := h.row
  rw [List.map_append, List.map_cons, List.map_nil] at hrow
  have e3 : lv.v = .slice lv.a (L.length + 1) lv.c := by unfold Sl.v; rw [l1]; simp
  rw [e3] at hrow
  obtain ⟨g, cap, e4, _, h5, h6, h7, h8⟩ := ownR_form hrow (by simp)
  have ea : lv.a = some ⟨g, 0, none⟩ := by injection e4
  have ec : lv.c = cap := by injection e4
  have hn : (ds.map FrD.b ++ [d.b]).length = L.length + 1 := by injection e4 with e _ ; simp at l2; simp; omega
  have hL : ds.length = L.length := by simpa using hn
  have hcell : w.cell? ⟨g, L.length, none⟩ = some (.pointer (some ⟨d.b, 0, none⟩)) := by
    have hr := readR_blk (c := ptrE) h8 h6 h7
    obtain ⟨b', o, c', e5, _, _, _, h9⟩ := readR_pos hr (by simp)
    cases e5
    have := h9 L.length (by rw [hn]; exact Nat.lt_succ_self _) 0 (by decide)
    rw [show 0 + (L.length * ptrE.size + 0) = L.length by show 0 + (L.length * 1 + 0) = L.length; omega] at this
    rw [this, List.getElem_append_right (by simp; omega)]
    simp [ptrE]
  have hc4 : w.cell? ⟨s, 4, none⟩ = some (.slice (some ⟨g, 0, none⟩) (L.length + 1) cap) := by
    rw [← ea, ← ec, show L.length + 1 = lv.n by rw [l1]; simp]; exact hc
  have hlen : (L ++ [m]).length = L.length + 1 := by simp
  rw [hlen] at HL
  have hcap : L.length + 1 ≤ cap := by rw [← hn]; exact h6
  have hcap2 := cap_le h7
  generalize L.length = N at *
  unfold fp at *
  have hne : ((((N + 1 : Nat) : Int)) == 0) = false := by rw [beq_eq_false_iff_ne]; omega
  clear h hc hrow e3 e4 ea ec hn h8 hlen l1 l2 hL h6 h7
  go_enter Try.func62, Try.ntmps62
  go_wp2_with fail
  refine HL.out.mono ?_
  rintro e w1 ⟨rfl, rfl⟩
  go_wp2_with fail
  go_ret2
  exact ⟨rfl, rfl⟩
/-- A thread's frames that the call has made: none. -/
def NewFrs (w0 w : World) (p : PrV) (e : Ending) (w' : World) : Prop := ∃ s, e = .returned (fp s) ∧ FrsAt w0 w' s p ⟨none, 0, 0⟩ [] [] ∧ w.heap.size ≤ s ∧ Below w.heap.size w w'
theorem fnew_any {w0 w : World} (p : PrV) (hb : Below w0.heap.size w0 w) : Calls Try.prog 16 #[aggP p] w (NewFrs w0 w p) := by
  have HB := Lib.hid hb
  obtain ⟨u, ⟨ga, gn, gc⟩, m, ⟨fa, fn, fc⟩⟩ := p
  have hsz : Hid (w0.heap.size ≤ w.heap.size) := hb.size
  clear hb
  unfold aggP Sl.v
  simp only
  go_enter Try.func16, Try.ntmps16
  go_wp2_with fail
  refine post_named ?_
  intro w1 hw1
  have B1 : Blk w1 (w.heap.size + 1) [.bool u, .slice ga gn gc, .int .i64 m, .slice fa fn fc, .slice none 0 0] := by
    have q := blk_new (w.alloc (.cells #[.bool u, .slice ga gn gc, .int .i64 m, .slice fa fn fc] 31)) #[.bool u, .slice ga gn gc, .int .i64 m, .slice fa fn fc, .slice none 0 0] FRST
    rw [World.size_alloc] at q
    rw [hw1]; exact q
  have T1 : tyB w1 (w.heap.size + 1) = some FRST := by rw [hw1]; exact tyB_new2 (by simp)
  have hb1 : Below w.heap.size w w1 := by rw [hw1]; exact b_alloc (b_alloc (Below.refl _ _) _) _
  clear hw1
  go_ret
  exact ⟨w.heap.size + 1, rfl, ⟨b_call HB.out hb1, B1, T1, by have := hsz.out; omega, ownR_nil _ _, trivial, List.Pairwise.nil⟩, by omega, hb1⟩
theorem fret_none {w0 w : World} {s : Nat} {p : PrV} {lv : Sl} {ds : List FrD} (h : FrsAt w0 w s p lv ds []) : Calls Try.prog 23 #[fp s] w fun e w' => e = .returned (.int .i64 6) ∧ w = w' := by
  have HL := Lib.hid (ftop_none h)
  unfold fp at *
  clear h
  go_enter Try.func23, Try.ntmps23
  go_wp2_with fail
  refine HL.out.mono ?_
  rintro e w1 ⟨rfl, rfl⟩
  go_wp2_with fail
  go_ret
  exact ⟨rfl, rfl⟩
theorem fret_any {w0 w : World} {s : Nat} {p : PrV} {lv : Sl} {ds : List FrD} {L : List FrM} {d : FrD} {m : FrM} (h : FrsAt w0 w s p lv (ds ++ [d]) (L ++ [m])) : Calls Try.prog 23 #[fp s] w fun e w' => e = .returned (.int .i64 0) ∧ FrsAt w0 w' s p ⟨lv.a, L.length, lv.c⟩ ds L ∧ w.grownBy w' (some s) := by
  have HT := Lib.hid (ftop_any h)
  have H := Lib.hid h
  obtain ⟨l1, l2⟩ := frs_len h
  obtain ⟨h0, h1, h2, h3, hc⟩ : True ∧ True ∧ True ∧ True ∧ w.cell? ⟨s, 4, none⟩ = some (.slice lv.a (L.length + 1) lv.c) := ⟨trivial, trivial, trivial, trivial, by
    have hc := h.hd.2.1 4 (by simp)
    rw [show L.length + 1 = lv.n by rw [l1]; simp]; exact hc⟩
  have hf := h.hd.2.2
  have hcap : L.length + 1 ≤ lv.c := by
    obtain ⟨a, cap, e, e2, e3⟩ := readR_len (ownR_read h.row)
    have e4 : Value.slice lv.a lv.n lv.c = .slice a ((ds ++ [d]).map FrD.b).length cap := e
    injection e4 with _ e5 e6
    rw [e6]; rw [← e5, l1] at e2; simpa using e2
  have hcap2 : lv.c ≤ 9223372036854775807 := by
    obtain ⟨a, cap, e, e2, e3⟩ := readR_len (ownR_read h.row)
    have e4 : Value.slice lv.a lv.n lv.c = .slice a ((ds ++ [d]).map FrD.b).length cap := e
    injection e4 with _ e5 e6
    rw [e6]; exact cap_le e3
  have DONE : Hid (FrsAt w0 (w.setCell ⟨s, 4, none⟩ (.slice lv.a L.length lv.c)).drew s p ⟨lv.a, L.length, lv.c⟩ ds L ∧ w.grownBy (w.setCell ⟨s, 4, none⟩ (.slice lv.a L.length lv.c)).drew (some s)) := by
    have q := frs_less h
    have g1 : w.grownBy (w.setCell ⟨s, 4, none⟩ (.slice lv.a L.length lv.c)).drew (some s) := gb_drew (gb_set (gb_refl _ _) _ _ _)
    exact ⟨⟨b_drew q.be, q.hd, q.ty, q.lo, q.row, frAll_gx (X := fun _ => False) (gx_drew (gx_refl _ _)) q.fr (fun _ _ => ⟨fun e => e, fun _ _ e => e⟩), q.ap⟩, g1⟩
  have ne : ((((L.length + 1 : Nat) : Int)) == 0) = false := by rw [beq_eq_false_iff_ne]; omega
  obtain ⟨la, ln, lc⟩ := lv
  simp only at *
  have hi : ((L.length : Int)) + 1 ≤ lc := by omega
  clear h h0 h1 h2 h3 l1 l2
  generalize L.length = N at *
  unfold fp at *
  go_enter Try.func23, Try.ntmps23
  go_wp2_with fail
  refine HT.out.mono ?_
  rintro e w1 ⟨rfl, rfl⟩
  go_wp2_with fail
  go_region
  all_goals
    go_wp2_with fail
    go_ret
    exact ⟨rfl, DONE.out⟩
end
section
open Go.RowKit
set_option linter.unusedVariables false
set_option linter.unusedSimpArgs false
attribute [local go_sem] over_cell over_frozen
/-- A block of the frames' own. -/
def FrTy (w : World) (j : Nat) : Prop := tyB w j = some FRST ∨ tyB w j = some FPTT ∨ tyB w j = some FRMT ∨ tyB w j = some VALT
/-- Of the older blocks those of the frames' own types alone may have turned. -/
def GrT (w w' : World) : Prop := GrowX w w' (FrTy w)
theorem grT_below {w w' : World} (h : Below w.heap.size w w') : GrT w w' := gx_below h _
theorem grT_trans {a b c : World} (h : GrT a b) (h' : GrT b c) : GrT a c := by
  refine gx_trans h h' (fun _ _ q => q) (fun k hk hq => ?_)
  rcases Classical.em (FrTy a k) with q | q
  · exact q
  · have e := tyB_block (h.block k hk q)
    unfold FrTy at hq q
    rw [e] at hq
    exact absurd hq q
theorem grT_of {w w' : World} {X : Nat → Prop} (h : GrowX w w' X) (hX : ∀ j, j < w.heap.size → X j → FrTy w j) : GrT w w' := gx_mono h hX
theorem grT_gb {w w' : World} {j : Nat} (h : w.grownBy w' (some j)) (hj : FrTy w j) : GrT w w' := gx_gb h (fun k e => by injection e with e; subst e; exact hj)
variable {w0 w w' : World} {s : Nat} {p : PrV} {lv : Sl} {ds : List FrD} {L : List FrM} {d : FrD} {m : FrM}
theorem frs_ok (h : FrsAt w0 w s p lv (ds ++ [d]) (L ++ [m])) : FrOk w0.heap.size w d m := by
  obtain ⟨ds', d2, e, hA, hO⟩ := frAll_last h.fr
  obtain ⟨e1, e2⟩ := List.append_inj' e (by simp)
  obtain rfl : d = d2 := by simpa using e2
  exact hO
theorem blk_new3 {w : World} {c : Array Value} {T : TypeId} {k : Nat} (hk : k = w.heap.size) : Blk (w.alloc (.cells c T)) k c.toList := by rw [hk]; exact blk_new w c T
theorem own_sl {α : Type} {c : Elt α} {E : TypeId} {B : Nat} {sl : Sl} {M : List α} (h : OwnR c E w B sl.v M) : sl.n = M.length ∧ M.length ≤ sl.c ∧ sl.c ≤ maxLen := by
  obtain ⟨a, cap, e, e2, e3⟩ := readR_len (ownR_read h)
  have e4 : Value.slice sl.a sl.n sl.c = .slice a M.length cap := e
  injection e4 with _ e5 e6
  rw [e6]; exact ⟨e5, e2, e3⟩
/-- The topmost frame's head is another one. -/
theorem frs_head {d' : FrD} {m' : FrM} {i : Nat} {u : Value} (h : FrsAt w0 w s p lv (ds ++ [d]) (L ++ [m])) (hb : d'.b = d.b) (hn : ∀ k, d'.owns k → d.owns k) (hd : FrOk w0.heap.size (w.setCell ⟨d.b, i, none⟩ u) d' m') :
    FrsAt w0 (w.setCell ⟨d.b, i, none⟩ u) s p lv (ds ++ [d']) (L ++ [m']) ∧ GrT w (w.setCell ⟨d.b, i, none⟩ u) := by
  have g1 : GrowX w (w.setCell ⟨d.b, i, none⟩ u) (fun j => j = d.b) := gx_set (X := fun j => j = d.b) (gx_refl _ _) (Or.inr rfl) _
  refine ⟨frs_top h (gx_mono g1 (fun k _ e => Or.inl e)) hd hb (fun k hk => Or.inl (hn k hk)), grT_of g1 (fun j _ e => ?_)⟩
  rw [e]; exact Or.inr (Or.inr (Or.inl (frs_ok h).ty))
theorem pop_ok {S : List ValM} {v : ValM} (h : FrOk w0.heap.size w d m) (hs : m.stk = S ++ [v]) : FrOk w0.heap.size (w.setCell ⟨d.b, 3, none⟩ (.slice d.sv.a S.length d.sv.c)) ⟨d.b, d.lv, ⟨d.sv.a, S.length, d.sv.c⟩⟩ ⟨m.f, m.at_, m.loc, S⟩ := by
  have hG : GrowX w (w.setCell ⟨d.b, 3, none⟩ (.slice d.sv.a S.length d.sv.c)) (fun j => j = d.b) := gx_set (X := fun j => j = d.b) (gx_refl _ _) (Or.inr rfl) _
  have ho := h.s
  rw [hs] at ho
  have hn := (own_sl ho).1
  have e3 : d.sv.v = .slice d.sv.a (S.length + 1) d.sv.c := by unfold Sl.v; rw [hn]; simp
  rw [e3] at ho
  obtain ⟨p1, _, g, hg⟩ := ownR_pop ho
  refine ⟨blk_set h.hd 3 _, by rw [tyB_set]; exact h.ty, ownR_gx h.l hG (fun k hk e => ownR_ne h.l h.ty (by decide) k hk e), ownR_gx p1 hG (fun k hk e => ownR_ne p1 h.ty (by decide) k hk e), fun k hk => ?_, h.lo⟩
  have := h.ne k hk
  rw [e3] at this
  intro e
  apply this
  rw [hg] at e ⊢
  exact e
theorem fpop_none (h : FrsAt w0 w s p lv ds []) : Calls Try.prog 22 #[fp s] w fun e w' => e = .returned (.tuple #[aggV ⟨0, 0⟩, .int .i64 6]) ∧ Below w.heap.size w w' := by
  have HT := Lib.hid (ftop_none (frs_below h (b_alloc (Below.refl w.heap.size w) (.cells #[.int .i64 0, .int .u64 0] VALT))))
  clear h
  unfold aggV fp at *
  go_enter Try.func22, Try.ntmps22
  go_wp2_with fail
  refine HT.out.mono ?_
  rintro e w1 ⟨rfl, rfl⟩
  go_wp2_with fail
  exact bodyPost_ret (v := .tuple #[.agg #[.int .i64 0, .int .u64 0], .int .i64 6]) (by simp [results, Try.results22, go_sem]) rfl ⟨rfl, by (repeat' (first | exact Below.refl _ _ | assumption | refine b_alloc ?_ _ | refine b_over ?_ _ | refine b_drew ?_ | refine b_call ?_ (by assumption)))⟩
theorem fr_cells (h : FrOk w0.heap.size w d m) : w.cell? ⟨d.b, 0, none⟩ = some (.int .i64 m.f) ∧ w.cell? ⟨d.b, 1, none⟩ = some (.int .i64 m.at_) ∧ w.cell? ⟨d.b, 2, none⟩ = some (.slice d.lv.a m.loc.length d.lv.c) ∧ w.cell? ⟨d.b, 3, none⟩ = some (.slice d.sv.a m.stk.length d.sv.c) ∧ (∀ i, w.frozen? ⟨d.b, i, none⟩ = false) := by
  obtain ⟨c0, c1, c2, c3, cf⟩ := blk4 h.hd
  rw [(own_sl h.l).1] at c2
  rw [(own_sl h.s).1] at c3
  exact ⟨c0, c1, c2, c3, cf⟩
theorem fpop_empty (h : FrsAt w0 w s p lv (ds ++ [d]) (L ++ [m])) (hm : m.stk = []) : Calls Try.prog 22 #[fp s] w fun e w' => e = .returned (.tuple #[aggV ⟨0, 0⟩, .int .i64 6]) ∧ Below w.heap.size w w' := by
  have h1 := frs_below h (b_alloc (Below.refl w.heap.size w) (.cells #[.int .i64 0, .int .u64 0] VALT))
  have HT := Lib.hid (ftop_any h1)
  obtain ⟨_, _, _, c3, _⟩ := fr_cells (frs_ok h)
  have hl := (frs_ok h).hd.1
  rw [hm] at c3
  simp only [List.length_nil] at c3
  clear h h1 hm
  unfold aggV fp at *
  go_enter Try.func22, Try.ntmps22
  go_wp2_with fail
  refine HT.out.mono ?_
  rintro e w1 ⟨rfl, rfl⟩
  go_wp2_with fail
  exact bodyPost_ret (v := .tuple #[.agg #[.int .i64 0, .int .u64 0], .int .i64 6]) (by simp [results, Try.results22, go_sem]) rfl ⟨rfl, by (repeat' (first | exact Below.refl _ _ | assumption | refine b_alloc ?_ _ | refine b_over ?_ _ | refine b_drew ?_ | refine b_call ?_ (by assumption)))⟩
def PopEnd (w0 w : World) (s : Nat) (p : PrV) (lv : Sl) (ds : List FrD) (L : List FrM) (d : FrD) (m : FrM) (S : List ValM) (v : ValM) (e : Ending) (w' : World) : Prop :=
  e = .returned (.tuple #[aggV v, .int .i64 0]) ∧ FrsAt w0 w' s p lv (ds ++ [⟨d.b, d.lv, ⟨d.sv.a, S.length, d.sv.c⟩⟩]) (L ++ [⟨m.f, m.at_, m.loc, S⟩]) ∧ GrT w w'
set_option maxRecDepth 100000 in
theorem fpop_any {S : List ValM} {v : ValM} (h : FrsAt w0 w s p lv (ds ++ [d]) (L ++ [m])) (hm : m.stk = S ++ [v]) : Calls Try.prog 22 #[fp s] w (PopEnd w0 w s p lv ds L d m S v) := by
  have h1 := frs_below h (b_alloc (Below.refl w.heap.size w) (.cells #[.int .i64 0, .int .u64 0] VALT))
  have HT := Lib.hid (ftop_any h1)
  have hO := frs_ok h
  obtain ⟨_, _, _, c3, cf⟩ := fr_cells hO
  have hl := hO.hd.1
  have ho := hO.s
  obtain ⟨n1, n2, n3⟩ := own_sl ho
  have hsl : m.stk.length = S.length + 1 := by rw [hm]; simp
  rw [hm] at ho
  obtain ⟨g, cap, e, _, hgl, _, _, hB⟩ := ownR_form ho (by simp)
  have ea : d.sv.a = some ⟨g, 0, none⟩ := by
    have e2 : Value.slice d.sv.a d.sv.n d.sv.c = .slice (some ⟨g, 0, none⟩) (S ++ [v]).length cap := e
    injection e2
  have hgT : g ≠ d.b := fun e2 => by
    have t1 := frOk_ty hO g (Or.inr (by unfold Sl.v; rw [ea]; rfl))
    rw [e2, hO.ty] at t1; injection t1 with t1; exact absurd t1 (by decide)
  have hr := readR_blk (c := valE) hB (Nat.le_refl _) (by rw [← hm]; omega)
  obtain ⟨b', o, c', e5, _, _, _, h9⟩ := valR_pos hr (by simp)
  cases e5
  obtain ⟨v0, v1⟩ := h9 S.length (by simp)
  rw [List.getElem_append_right (Nat.le_refl _)] at v0 v1
  simp only [Nat.sub_self, List.getElem_cons_zero, Nat.zero_add] at v0 v1
  rw [hsl, ea] at c3
  have hcap : S.length + 1 ≤ d.sv.c := by rw [← hsl]; exact n2
  have hcap2 := cap_le n3
  have k0 : (0 : Int) ≤ S.length := by omega
  have DONE : Hid (∀ w1, Below (w.setCell ⟨d.b, 3, none⟩ (.slice (some ⟨g, 0, none⟩) S.length d.sv.c)).heap.size (w.setCell ⟨d.b, 3, none⟩ (.slice (some ⟨g, 0, none⟩) S.length d.sv.c)) w1 → PopEnd w0 w s p lv ds L d m S v (.returned (.tuple #[aggV v, .int .i64 0])) w1) := by
    intro w1 hb1
    have q := pop_ok (frs_ok h) hm
    rw [ea] at q
    obtain ⟨q1, q2⟩ := frs_head (d' := ⟨d.b, d.lv, ⟨some ⟨g, 0, none⟩, S.length, d.sv.c⟩⟩) h rfl (fun k hk => hk.elim Or.inl (fun e => Or.inr (by unfold Sl.v at *; rw [ea]; exact e))) q
    refine ⟨rfl, ?_, grT_trans q2 (grT_below hb1)⟩
    rw [ea]; exact frs_below q1 hb1
  obtain ⟨vk, vb⟩ := v
  simp only at v0 v1
  clear h h1 hm ho hO n1 n2 n3 hsl e hB hr h9 ea
  generalize S.length = N at *
  unfold aggV fp at *
  go_enter Try.func22, Try.ntmps22
  go_wp2_with fail
  refine HT.out.mono ?_
  rintro e w1 ⟨rfl, rfl⟩
  go_wp2_with fail
  exact bodyPost_ret (v := .tuple #[.agg #[.int .i64 vk, .int .u64 vb], .int .i64 0]) (by simp [results, Try.results22, go_sem]) rfl (DONE.out _ (by (repeat' (first | exact Below.refl _ _ | assumption | refine b_alloc ?_ _ | refine b_over ?_ _ | refine b_drew ?_ | refine b_call ?_ (by assumption)))))
theorem push_done {v : ValM} {W2 w3 : World} {g cap : Nat} (h : FrsAt w0 w s p lv (ds ++ [d]) (L ++ [m])) (hb : Below w.heap.size w W2) (hown : OwnR valE VALT w3 w0.heap.size (.slice (some ⟨g, 0, none⟩) (m.stk.length + 1) cap) (m.stk ++ [v])) (hg : W2.grownBy w3 d.sv.v.ownBlock) (hor : d.sv.v.ownBlock = some g ∨ g = W2.heap.size) :
    FrsAt w0 (w3.setCell ⟨d.b, 3, none⟩ (.slice (some ⟨g, 0, none⟩) (m.stk.length + 1) cap)) s p lv (ds ++ [⟨d.b, d.lv, ⟨some ⟨g, 0, none⟩, m.stk.length + 1, cap⟩⟩]) (L ++ [⟨m.f, m.at_, m.loc, m.stk ++ [v]⟩]) ∧ GrT w (w3.setCell ⟨d.b, 3, none⟩ (.slice (some ⟨g, 0, none⟩) (m.stk.length + 1) cap)) := by
  have h2 := frs_below h hb
  have hO := frs_ok h2
  have g1 : GrowX W2 w3 (fun j => d.sv.v.ownBlock = some j) := gx_gb (X := fun j => d.sv.v.ownBlock = some j) hg (fun k e => e)
  have nb : ¬ d.sv.v.ownBlock = some d.b := fun e => ownR_ne hO.s hO.ty (by decide) d.b e rfl
  have hO3h := blk_gx hO.hd g1 nb
  have hO3t := tyB_gx hO.ty g1 nb
  have l3 := ownR_gx hO.l g1 (fun k hk e => hO.ne k hk e)
  have g2 : GrowX w3 (w3.setCell ⟨d.b, 3, none⟩ (.slice (some ⟨g, 0, none⟩) (m.stk.length + 1) cap)) (fun j => j = d.b) := gx_set (X := fun j => j = d.b) (gx_refl _ _) (Or.inr rfl) _
  have g3 : GrowX W2 (w3.setCell ⟨d.b, 3, none⟩ (.slice (some ⟨g, 0, none⟩) (m.stk.length + 1) cap)) (fun j => j = d.b ∨ d.owns j) := gx_trans g1 g2 (fun k _ e => Or.inr (Or.inr e)) (fun k _ e => Or.inl e)
  have hOk : FrOk w0.heap.size (w3.setCell ⟨d.b, 3, none⟩ (.slice (some ⟨g, 0, none⟩) (m.stk.length + 1) cap)) ⟨d.b, d.lv, ⟨some ⟨g, 0, none⟩, m.stk.length + 1, cap⟩⟩ ⟨m.f, m.at_, m.loc, m.stk ++ [v]⟩ := by
    refine ⟨blk_set hO3h 3 _, by rw [tyB_set]; exact hO3t, ownR_gx l3 g2 (fun k hk e => ownR_ne l3 hO3t (by decide) k hk e), ownR_gx hown g2 (fun k hk e => ownR_ne hown hO3t (by decide) k hk e), fun k hk e => ?_, hO.lo⟩
    have e1 : g = k := by have e2 : some g = some k := e; injection e2
    subst e1
    rcases hor with q | q
    · exact hO.ne g hk q
    · have := (ownR_lt hO.l g hk).2; omega
  refine ⟨frs_top h2 g3 hOk rfl (fun k hk => ?_), grT_trans (grT_below hb) (grT_of g3 (fun j _ e => ?_))⟩
  · rcases hk with hk | hk
    · exact Or.inl (Or.inl hk)
    · have e1 : g = k := by have e2 : some g = some k := hk; injection e2
      subst e1
      rcases hor with q | q
      · exact Or.inl (Or.inr q)
      · exact Or.inr (by omega)
  · rcases e with e | e
    · rw [e]; exact Or.inr (Or.inr (Or.inl hO.ty))
    · exact Or.inr (Or.inr (Or.inr (frOk_ty hO j e)))
theorem fpush_none (h : FrsAt w0 w s p lv ds []) (v : ValM) : Calls Try.prog 19 #[fp s, aggV v] w fun e w' => e = .returned (.int .i64 6) ∧ Below w.heap.size w w' := by
  obtain ⟨vk, vb⟩ := v
  have HT := Lib.hid (ftop_none (frs_below h (b_alloc (Below.refl w.heap.size w) (.cells #[.int .i64 vk, .int .u64 vb] VALT))))
  clear h
  unfold aggV fp at *
  go_enter Try.func19, Try.ntmps19
  go_wp2_with fail
  refine HT.out.mono ?_
  rintro e w1 ⟨rfl, rfl⟩
  go_wp2_with fail
  go_ret
  exact ⟨rfl, by (repeat' (first | exact Below.refl _ _ | assumption | refine b_alloc ?_ _ | refine b_over ?_ _ | refine b_drew ?_ | refine b_call ?_ (by assumption)))⟩
theorem fpush_full (h : FrsAt w0 w s p lv (ds ++ [d]) (L ++ [m])) (v : ValM) (hm : m.stk.length = 16) : Calls Try.prog 19 #[fp s, aggV v] w fun e w' => e = .returned (.int .i64 5) ∧ Below w.heap.size w w' := by
  obtain ⟨vk, vb⟩ := v
  have h1 := frs_below h (b_alloc (Below.refl w.heap.size w) (.cells #[.int .i64 vk, .int .u64 vb] VALT))
  have HT := Lib.hid (ftop_any h1)
  obtain ⟨_, _, _, c3, _⟩ := fr_cells (frs_ok h)
  have hl := (frs_ok h).hd.1
  rw [hm] at c3
  clear h h1 hm
  unfold aggV fp at *
  go_enter Try.func19, Try.ntmps19
  go_wp2_with fail
  refine HT.out.mono ?_
  rintro e w1 ⟨rfl, rfl⟩
  go_wp2_with fail
  go_ret
  exact ⟨rfl, by (repeat' (first | exact Below.refl _ _ | assumption | refine b_alloc ?_ _ | refine b_over ?_ _ | refine b_drew ?_ | refine b_call ?_ (by assumption)))⟩
def PushEnd (w0 w : World) (s : Nat) (p : PrV) (lv : Sl) (ds : List FrD) (L : List FrM) (d : FrD) (m : FrM) (v : ValM) (e : Ending) (w' : World) : Prop :=
  e = .returned (.int .i64 0) ∧ (∃ d', FrsAt w0 w' s p lv (ds ++ [d']) (L ++ [⟨m.f, m.at_, m.loc, m.stk ++ [v]⟩])) ∧ GrT w w'
set_option maxRecDepth 100000 in
theorem fpush_any (h : FrsAt w0 w s p lv (ds ++ [d]) (L ++ [m])) (v : ValM) (hm : m.stk.length < 16) : Calls Try.prog 19 #[fp s, aggV v] w (PushEnd w0 w s p lv ds L d m v) := by
  have HV : Hid (Blk (w.alloc (.cells #[.int .i64 v.k, .int .u64 v.b] VALT)) w.heap.size (valE.cells v)) := blk_new _ _ _
  have h1 := frs_below h (b_alloc (Below.refl w.heap.size w) (.cells #[.int .i64 v.k, .int .u64 v.b] VALT))
  have HT := Lib.hid (ftop_any h1)
  obtain ⟨_, _, _, c3, cf⟩ := fr_cells (frs_ok h)
  have hl := (frs_ok h).hd.1
  have HO := Lib.hid (frs_ok h1)
  have H := Lib.hid h
  have hm2 : ¬ ((m.stk.length : Int) = 16) := by omega
  have hm3 : ((m.stk.length : Int) == 16) = false := by rw [beq_eq_false_iff_ne]; exact hm2
  have hm4 := Lib.hid hm
  have hB0 : Hid (w0.heap.size ≤ w.heap.size) := h.be.size
  have hsv : d.sv.v = .slice d.sv.a m.stk.length d.sv.c := by unfold Sl.v; rw [(own_sl (frs_ok h).s).1]
  have HSV := Lib.hid hsv
  have PZ : Hid (∀ W2 w7 : World, Below (w.alloc (.cells #[.int .i64 v.k, .int .u64 v.b] VALT)).heap.size (w.alloc (.cells #[.int .i64 v.k, .int .u64 v.b] VALT)) W2 → W2.grownBy w7 (Value.slice d.sv.a m.stk.length d.sv.c).ownBlock → w7.cell? ⟨d.b, 3, none⟩ = some (.slice d.sv.a m.stk.length d.sv.c) ∧ ∀ i, w7.frozen? ⟨d.b, i, none⟩ = false) := by
    intro W2 w7 hb hg
    have hO2 := frs_ok (frs_below h1 hb)
    obtain ⟨_, _, _, z3, zf⟩ := fr_cells hO2
    have nb : some d.b ≠ (Value.slice d.sv.a m.stk.length d.sv.c).ownBlock := by
      intro e
      rw [← hsv] at e
      exact ownR_ne hO2.s hO2.ty (by decide) d.b e.symm rfl
    have q := blk_grown hO2.hd hg nb
    obtain ⟨_, _, _, y3, yf⟩ := blk4 q
    rw [(own_sl hO2.s).1] at y3
    exact ⟨y3, yf⟩
  have PD : Hid (∀ W2 w7 : World, ∀ g cap, Below w.heap.size w W2 → OwnR valE VALT w7 w0.heap.size (.slice (some ⟨g, 0, none⟩) (m.stk.length + 1) cap) (m.stk ++ [v]) → W2.grownBy w7 (Value.slice d.sv.a m.stk.length d.sv.c).ownBlock → ((Value.slice d.sv.a m.stk.length d.sv.c).ownBlock = some g ∨ g = W2.heap.size) → PushEnd w0 w s p lv ds L d m v (.returned (.int .i64 0)) (w7.setCell ⟨d.b, 3, none⟩ (.slice (some ⟨g, 0, none⟩) (m.stk.length + 1) cap))) := by
    intro W2 w7 g cap hb ho hg hor
    rw [← hsv] at hg hor
    obtain ⟨q1, q2⟩ := push_done h hb ho hg hor
    exact ⟨rfl, ⟨_, q1⟩, q2⟩
  clear h h1 hm2 hm hsv
  unfold aggV fp at *
  go_enter Try.func19, Try.ntmps19
  go_wp2_with fail
  refine HT.out.mono ?_
  rintro e w1 ⟨rfl, rfl⟩
  go_wp2_with fail
  go_region_law (refine step_append1 (c := valE) valT (by rfl) _ _ (by rfl) (by rfl) (v := .slice d.sv.a m.stk.length d.sv.c) (L := m.stk) (B := w0.heap.size) (by rw [← HSV.out]; exact ownR_below HO.out.s (by (repeat' (first | exact Below.refl _ _ | assumption | refine b_alloc ?_ _ | refine b_over ?_ _ | refine b_drew ?_ | refine b_call ?_ (by assumption))))) v _ 1 (by rfl) (blk_new3 (by simp)) ?c1 ?c2 ?c3 ?_; (case c1 => (have := hm4.out; omega)); (case c2 => (unfold maxLen; have := hm4.out; omega)); (case c3 => (simp; have := hB0.out; omega)); intro g cap w7 ho7 hg7 hor7 hl7; obtain ⟨z3, zf⟩ := PZ.out _ w7 (by (repeat' (first | exact Below.refl _ _ | assumption | refine b_alloc ?_ _ | refine b_over ?_ _ | refine b_drew ?_ | refine b_call ?_ (by assumption)))) hg7; have D7 := Lib.hid (PD.out _ w7 g cap (by (repeat' (first | exact Below.refl _ _ | assumption | refine b_alloc ?_ _ | refine b_over ?_ _ | refine b_drew ?_ | refine b_call ?_ (by assumption)))) ho7 hg7 hor7); clear ho7 hg7 hor7)
  all_goals
    go_wp2_with fail
    go_ret
    exact D7.out
end
end Go.Proofs.Ytdmidnmciaediaa
