/- Layer 28: the contracts of the law's same and fit. Conditions: those stated. -/
import Derived.Test.YtdmidnmciaediaaYFrW
import Derived.Test.YtdmidnmciaediaaYFrY
namespace Go.Proofs.Ytdmidnmciaediaa
open Go.RowKit
set_option linter.unusedVariables false
set_option linter.unusedSimpArgs false
attribute [local go_sem] over_cell over_frozen
variable {w0 w w' : World} {r : Nat} {q : PrV} {lv : Sl} {L : List FrM} {m : FrM}
theorem eqValR (k1 b1 k2 b2 : Int) (w : World) : (binOp .eql 54 (.agg #[.int .i64 k1, .int .u64 b1]) (.agg #[.int .i64 k2, .int .u64 b2])).run Try.prog w = .ok (.bool (k1 == k2 && b1 == b2)) w := by
  have hS : Try.prog.underlying 54 = some (.struct (Try.prog.fieldsOf 54)) := by kernel_rfl
  have hp : Try.prog.stoodInHeld 54 = false := by kernel_rfl
  rw [run_eql_struct, show (10000 : Nat) = 9999 + 1 from rfl, run_equalIn_agg w 9999 _ _ _ hS hp]
  simp only [Program.fieldsOf, Try.underlying54]
  go_simp
  by_cases h1 : k1 = k2 <;> by_cases h2 : b1 = b2 <;> simp [h1, h2]
theorem neqValR (k1 b1 k2 b2 : Int) (w : World) : (binOp .neq 54 (.agg #[.int .i64 k1, .int .u64 b1]) (.agg #[.int .i64 k2, .int .u64 b2])).run Try.prog w = .ok (.bool (!(k1 == k2 && b1 == b2))) w := by
  have hS : Try.prog.underlying 54 = some (.struct (Try.prog.fieldsOf 54)) := by kernel_rfl
  have hp : Try.prog.stoodInHeld 54 = false := by kernel_rfl
  rw [run_neq_struct, show (10000 : Nat) = 9999 + 1 from rfl, run_equalIn_agg w 9999 _ _ _ hS hp]
  simp only [Program.fieldsOf, Try.underlying54]
  go_simp
  by_cases h1 : k1 = k2 <;> by_cases h2 : b1 = b2 <;> simp [h1, h2]
theorem guardValR (op : BinOp) (a b : Operand) (xs ys : Array Value) (w : World) : Sem.run Try.prog (eqGuard op 54 a b (.agg xs) (.agg ys)) w = .ok () w := run_eqGuard_agg w op _ a b xs ys (by kernel_rfl)
set_option maxRecDepth 100000 in
set_option maxHeartbeats 1000000 in
theorem lsame28 (u v : Value) (M : List ValM) (w : World) (h : ReadR valE w u M) (h' : ReadR valE w v M) (hl : M.length ≤ 100) : Calls Try.prog 27 #[u, v] w fun e w' => e = .returned (.bool true) ∧ Below w.heap.size w w' := by
  obtain ⟨a, c, rfl, m2, m3⟩ := readR_len h
  obtain ⟨a', c', rfl, m2', m3'⟩ := readR_len h'
  have H := Lib.hid h; have H' := Lib.hid h'
  have hcap := cap_le m3
  have hcap' := cap_le m3'
  have hl1 : (M.length : Int) ≤ 100 := by omega
  have hee : ((M.length : Int) != M.length) = false := by simp
  clear h h' hl m3 m3'
  go_enter Try.func27, Try.ntmps27
  go_wp2_with fail
  go_loopw [13] (fun i wr => ∃ k : Nat, k ≤ M.length ∧ i = .int .i64 k ∧ Hid (Below w.heap.size w wr)) (fun i _ => M.length - (intOf i).toNat)
  case atStart => exact ⟨0, Nat.zero_le _, rfl, Lib.hid (Below.refl _ _)⟩
  case round =>
    obtain ⟨W1, hW1⟩ : ∃ x, x = wr := ⟨_, rfl⟩
    subst hW1
    obtain ⟨k, hk, rfl, HB⟩ := hrel
    have k0 : (0 : Int) ≤ k := by omega
    by_cases hlt : k < M.length
    · have k1 : (k : Int) < M.length := by omega
      have kc : (k : Int) < c := by omega
      have kc' : (k : Int) < c' := by omega
      obtain ⟨bl, off, cp, e1, r1, r2, hbl, r4⟩ := valR_pos (readR_below H.out HB.out) (by omega)
      injection e1 with e1 _ e3
      subst e1
      obtain ⟨bl', off', cp', e1', r1', r2', hbl', r4'⟩ := valR_pos (readR_below H'.out HB.out) (by omega)
      injection e1' with e1' _ e3'
      subst e1'
      obtain ⟨x0, x1⟩ := r4 k hlt
      obtain ⟨y0, y1⟩ := r4' k hlt
      generalize M[k] = x at *
      obtain ⟨xk, xb⟩ := x
      simp only at x0 x1 y0 y1
      have kg := guardValR
      have kq : ∀ w, (binOp .neq 54 (.agg #[.int .i64 xk, .int .u64 xb]) (.agg #[.int .i64 xk, .int .u64 xb])).run Try.prog w = .ok (.bool false) w := fun w => by rw [neqValR]; simp
      clear r4 r1 r2 e3 r4' r1' r2' e3'
      go_upto_region 6 with fail
      have HCE : Hid (∀ w', Below W1.heap.size W1 w' → (w'.cell? ⟨bl, off + k * 2, none⟩ = some (.int .i64 xk) ∧ w'.cell? ⟨bl, off + k * 2 + 1, none⟩ = some (.int .u64 xb)) ∧ (w'.cell? ⟨bl', off' + k * 2, none⟩ = some (.int .i64 xk) ∧ w'.cell? ⟨bl', off' + k * 2 + 1, none⟩ = some (.int .u64 xb))) := Lib.hid (fun w' hb => by
        have hc := (bcell hb).1
        exact ⟨⟨(hc _ _ hbl).trans x0, (hc _ _ hbl).trans x1⟩, (hc _ _ hbl').trans y0, (hc _ _ hbl').trans y1⟩)
      clear x0 x1 y0 y1 hbl hbl'
      refine wp_region_held_drew (S := fun w' => (w'.cell? ⟨bl, off + k * 2, none⟩ = some (.int .i64 xk) ∧ w'.cell? ⟨bl, off + k * 2 + 1, none⟩ = some (.int .u64 xb)) ∧ (w'.cell? ⟨bl', off' + k * 2, none⟩ = some (.int .i64 xk) ∧ w'.cell? ⟨bl', off' + k * 2 + 1, none⟩ = some (.int .u64 xb))) (by kernel_rfl) (HCE.out _ (b_drew (Below.refl _ _))) (fun hHeld => ?_)
      refine atI 0 ?_
      iterate 4 (refine takeN (v := ?_) rfl (by rfl) ?_ hHeld ?_; rotate_left; (focus (intro w hSw; (try dsimp only at hSw); go_simp; try (with_reducible rfl))); (try simp only [Act.put, Nat.reduceAdd, List.getElem_toArray, List.getElem_cons_succ, List.getElem_cons_zero, List.setIfInBounds_toArray, List.set_cons_zero, List.set_cons_succ]))
      refine atIo ?_
      refine atI 5 ?_
      iterate 4 (refine takeN (v := ?_) rfl (by rfl) ?_ hHeld ?_; rotate_left; (focus (intro w hSw; (try dsimp only at hSw); go_simp; try (with_reducible rfl))); (try simp only [Act.put, Nat.reduceAdd, List.getElem_toArray, List.getElem_cons_succ, List.getElem_cons_zero, List.setIfInBounds_toArray, List.set_cons_zero, List.set_cons_succ]))
      refine atIo ?_
      refine wpAnyH_ready (rs := [4]) (by kernel_rfl) (by simp) (AllReadyH.cons rfl (fun K hK => ?_) AllReadyH.nil)
      go_simp
      refine (lplain28 xk xb _).mono ?_
      rintro e w3 ⟨rfl, hb3'⟩
      have hb3 := b_call (b_drew (Below.refl W1.heap.size W1)) hb3'
      unfold aggV
      refine hK.out _ _ (HCE.out _ hb3) (fun hHeld => ?_)
      clear hK K
      (try simp only [Act.put, List.getElem_toArray, List.getElem_cons_succ, List.getElem_cons_zero, List.setIfInBounds_toArray, List.set_cons_zero, List.set_cons_succ])
      (refine wpAnyH_take (i := 9) (v := ?_) rfl (by kernel_rfl) (by kernel_rfl) (by kernel_rfl) (fun _ _ _ h => h) (Or.inl ⟨by rfl, ?_⟩) hHeld ?_; rotate_left; (focus (intro w hSw; (try dsimp only at hSw); go_simp; try (with_reducible rfl))); (try simp only [Act.put, List.getElem_toArray, List.getElem_cons_succ, List.getElem_cons_zero, List.setIfInBounds_toArray, List.set_cons_zero, List.set_cons_succ]))
      refine wpAnyH_done (by kernel_rfl) ?_ _
      go_wp2_with fail
      go_roundw
      case rel => exact ⟨k + 1, by omega, by first | rfl | go_num, Lib.hid (b_call HB.out hb3)⟩
      case measure => simp [intOf]; omega
    · have k1 : ¬ ((k : Int) < M.length) := by omega
      go_wp2_with fail
      go_ret
      exact ⟨rfl, HB.out⟩
structure OpM where
  kind : Int
  f : Int
  k : Int
  v : ValM
  args : List ValM
  fit : Bool
def aggOp (kind f k : Int) (v : ValM) (a : Option Addr) (n c : Nat) (fit : Bool) : Value := .agg #[.int .i64 kind, .int .i64 f, .int .i64 k, .int .i64 v.k, .int .u64 v.b, .slice a n c, .bool fit]
/-- Local: its value, or what is wrong. -/
def locM (L : List FrM) (k : Int) : ValM × Int := match L.getLast? with
  | none => (⟨0, 0⟩, 6)
  | some m => if 0 ≤ k ∧ k < m.loc.length then (m.loc.getD k.toNat ⟨0, 0⟩, 0) else (⟨0, 0⟩, 3)
def fitA (ps : List Int) (A : List ValM) : List ValM := (List.range ps.length).map (fun i => ⟨ps.getD i 0, if i < A.length then (A.getD i ⟨0, 0⟩).b else 0⟩)
def fitM (P : PrM) (L : List FrM) (o : OpM) : OpM := if o.fit = false then o else
  { o with args := (if o.kind = 0 ∧ 0 ≤ o.f ∧ o.f < P.fs.length then fitA (P.fs.getD o.f.toNat fz).ps o.args else o.args), v := (if o.kind = 6 ∧ (locM L o.k).2 = 0 then ⟨(locM L o.k).1.k, o.v.b⟩ else o.v) }
def FitEnd (w : World) (a0 : Option Addr) (c0 : Nat) (A0 : List ValM) (o : OpM) (e : Ending) (w' : World) : Prop := ∃ a c, e = .returned (aggOp o.kind o.f o.k o.v a o.args.length c o.fit) ∧ ReadR valE w' (.slice a o.args.length c) o.args ∧ Below w.heap.size w w' ∧ ((a = a0 ∧ c = c0 ∧ o.args = A0) ∨ (slOk w' VRT a o.args.length ∧ ∀ j, (Value.slice a o.args.length c).ownBlock = some j → w.heap.size ≤ j))
theorem lfit_no (h : DocF w0 w r q lv L) (o : OpM) {a : Option Addr} {c : Nat} (ha : ReadR valE w (.slice a o.args.length c) o.args) (hf : o.fit = false) : Calls Try.prog 63 #[rp r, aggOp o.kind o.f o.k o.v a o.args.length c o.fit] w (FitEnd w a c o.args o) := by
  have HA := Lib.hid ha
  obtain ⟨kd, f, k, ⟨vk, vb⟩, A, ft⟩ := o
  simp only at hf
  subst hf
  unfold FitEnd
  unfold rp aggOp
  clear h ha
  simp only
  go_enter Try.func63, Try.ntmps63
  go_wp2_with fail
  have hb : ∀ o1 o2, Below w.heap.size w ((w.alloc o1).alloc o2) := fun o1 o2 => b_alloc (b_alloc (Below.refl _ _) _) _
  exact bodyPost_ret (v := .agg #[.int .i64 kd, .int .i64 f, .int .i64 k, .int .i64 vk, .int .u64 vb, .slice a A.length c, .bool false]) (by simp [results, Try.results63, go_sem]) rfl ⟨a, c, rfl, readR_below HA.out (hb _ _), hb _ _, Or.inl ⟨rfl, rfl⟩⟩
theorem rloc_all (h : DocF w0 w r q lv L) (hL : L.length ≤ 24) (k : Int) : Calls Try.prog 70 #[rp r, .int .i64 k] w fun e w' => e = .returned (.tuple #[aggV (locM L k).1, .int .i64 (locM L k).2]) ∧ Below w.heap.size w w' := by
  rcases List.eq_nil_or_concat L with q1 | ⟨L', m, q1⟩
  · subst q1
    exact rloc_none h k
  · rw [List.concat_eq_append] at q1
    subst q1
    have hl : (L' ++ [m]).getLast? = some m := by simp
    have hL' : L'.length ≤ 24 := by rw [List.length_append] at hL; omega
    unfold locM
    rw [hl]
    simp only
    by_cases hk : 0 ≤ k ∧ k < m.loc.length
    · rw [if_pos hk]
      obtain ⟨j, hj⟩ : ∃ j : Nat, k = j := ⟨k.toNat, by omega⟩
      subst hj
      have hj : j < m.loc.length := by omega
      simp only [Int.toNat_natCast]
      rw [getD_at9 hj]
      exact rloc_any h hL' j hj
    · rw [if_neg hk]
      exact rloc_out h hL' k hk
end Go.Proofs.Ytdmidnmciaediaa
