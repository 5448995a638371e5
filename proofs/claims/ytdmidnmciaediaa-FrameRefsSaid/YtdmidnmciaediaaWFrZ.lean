/- Layer 28: the contracts of the law's same and fit. Conditions: those stated. -/
import Derived.Test.YtdmidnmciaediaaWFrW
import Derived.Test.YtdmidnmciaediaaWFrY
namespace Go.Proofs.Ytdmidnmciaediaa
open Go.RowKit
set_option linter.unusedVariables false
set_option linter.unusedSimpArgs false
attribute [local go_sem] over_cell over_frozen
variable {w0 w w' : World} {r : Nat} {q : PrV} {lv : Sl} {L : List FrM} {m : FrM}
theorem eqValR (k1 b1 k2 b2 : Int) (w : World) : (binOp .eql 54 (.agg #[.int .i64 k1, .int .u64 b1]) (.agg #[.int .i64 k2, .int .u64 b2])).run Try.prog w = .ok (.bool (k1 == k2 && b1 == b2)) w := by
  have hS : Try.prog.underlying 54 = some (.struct (Try.prog.fieldsOf 54)) := by kernel_rfl
  have hp : Try.prog.stoodInHeld 54 = false := by kernel_rfl
  rw [run_eql_struct, show (10000 : Nat) = 9999 + 1 from rfl, run_equalIn_agg w 9999 _ _ _ hS hp]
  simp only [Program.fieldsOf, Try.underlying54]
  go_simp
  by_cases h1 : k1 = k2 <;> by_cases h2 : b1 = b2 <;> simp [h1, h2]
theorem guardValR (op : BinOp) (a b : Operand) (xs ys : Array Value) (w : World) : Sem.run Try.prog (eqGuard op 54 a b (.agg xs) (.agg ys)) w = .ok () w := run_eqGuard_agg w op _ a b xs ys (by kernel_rfl)
structure OpM where
  kind : Int
  f : Int
  k : Int
  v : ValM
  args : List ValM
  fit : Bool
def aggOp (kind f k : Int) (v : ValM) (a : Option Addr) (n c : Nat) (fit : Bool) : Value := .agg #[.int .i64 kind, .int .i64 f, .int .i64 k, .int .i64 v.k, .int .u64 v.b, .slice a n c, .bool fit]
/-- Local: its value, or what is wrong. -/
def locM (L : List FrM) (k : Int) : ValM × Int := match L.getLast? with
  | none => (⟨0, 0⟩, 6)
  | some m => if 0 ≤ k ∧ k < m.loc.length then (m.loc.getD k.toNat ⟨0, 0⟩, 0) else (⟨0, 0⟩, 3)
def fitA (ps : List Int) (A : List ValM) : List ValM := (List.range ps.length).map (fun i => ⟨ps.getD i 0, if i < A.length then (A.getD i ⟨0, 0⟩).b else 0⟩)
def fitM (P : PrM) (L : List FrM) (o : OpM) : OpM := if o.fit = false then o else
  { o with args := (if o.kind = 0 ∧ 0 ≤ o.f ∧ o.f < P.fs.length then fitA (P.fs.getD o.f.toNat fz).ps o.args else o.args), v := (if o.kind = 6 ∧ (locM L o.k).2 = 0 then ⟨(locM L o.k).1.k, o.v.b⟩ else o.v) }
def FitEnd (w : World) (a0 : Option Addr) (c0 : Nat) (A0 : List ValM) (o : OpM) (e : Ending) (w' : World) : Prop := ∃ a c, e = .returned (aggOp o.kind o.f o.k o.v a o.args.length c o.fit) ∧ ReadR valE w' (.slice a o.args.length c) o.args ∧ Below w.heap.size w w' ∧ ((a = a0 ∧ c = c0 ∧ o.args = A0) ∨ (slOk w' VRT a o.args.length ∧ ∀ j, (Value.slice a o.args.length c).ownBlock = some j → w.heap.size ≤ j))
theorem lfit_no (h : DocF w0 w r q lv L) (o : OpM) {a : Option Addr} {c : Nat} (ha : ReadR valE w (.slice a o.args.length c) o.args) (hf : o.fit = false) : Calls Try.prog 63 #[rp r, aggOp o.kind o.f o.k o.v a o.args.length c o.fit] w (FitEnd w a c o.args o) := by
  have HA := Lib.hid ha
  obtain ⟨kd, f, k, ⟨vk, vb⟩, A, ft⟩ := o
  simp only at hf
  subst hf
  unfold FitEnd
  unfold rp aggOp
  clear h ha
  simp only
  go_enter Try.func63, Try.ntmps63
  go_wp2_with fail
  have hb : ∀ o1 o2, Below w.heap.size w ((w.alloc o1).alloc o2) := fun o1 o2 => b_alloc (b_alloc (Below.refl _ _) _) _
  exact bodyPost_ret (v := .agg #[.int .i64 kd, .int .i64 f, .int .i64 k, .int .i64 vk, .int .u64 vb, .slice a A.length c, .bool false]) (by simp [results, Try.results63, go_sem]) rfl ⟨a, c, rfl, readR_below HA.out (hb _ _), hb _ _, Or.inl ⟨rfl, rfl⟩⟩
theorem rloc_all (h : DocF w0 w r q lv L) (hL : L.length ≤ 24) (k : Int) : Calls Try.prog 70 #[rp r, .int .i64 k] w fun e w' => e = .returned (.tuple #[aggV (locM L k).1, .int .i64 (locM L k).2]) ∧ Below w.heap.size w w' := by
  rcases List.eq_nil_or_concat L with q1 | ⟨L', m, q1⟩
  · subst q1
    exact rloc_none h k
  · rw [List.concat_eq_append] at q1
    subst q1
    have hl : (L' ++ [m]).getLast? = some m := by simp
    have hL' : L'.length ≤ 24 := by rw [List.length_append] at hL; omega
    unfold locM
    rw [hl]
    simp only
    by_cases hk : 0 ≤ k ∧ k < m.loc.length
    · rw [if_pos hk]
      obtain ⟨j, hj⟩ : ∃ j : Nat, k = j := ⟨k.toNat, by omega⟩
      subst hj
      have hj : j < m.loc.length := by omega
      simp only [Int.toNat_natCast]
      rw [getD_at9 hj]
      exact rloc_any h hL' j hj
    · rw [if_neg hk]
      exact rloc_out h hL' k hk
end Go.Proofs.Ytdmidnmciaediaa
