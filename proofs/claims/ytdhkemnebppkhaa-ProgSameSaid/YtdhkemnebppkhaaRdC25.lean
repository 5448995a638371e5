/- Layer 25: a reader's instructions. Conditions: the reader stands, its bytes are bytes. -/
import Derived.Test.YtdhkemnebppkhaaRdF25
import Derived.Test.YtdhkemnebppkhaaOurs25
namespace Go.Proofs.Ytdhkemnebppkhaa
open Go.RowKit
set_option linter.unusedVariables false
set_option linter.unusedSimpArgs false
def mapC {α : Type} (done : List α) (R : Option (List α × List Int)) : Option (List α × List Int) := match R with
  | none => none
  | some (c, r) => some (done ++ c, r)
theorem rdCode_no {n : Nat} {b : List Int} (h : okR b = false) : rdCode (n + 1) b = none := by unfold rdCode; rw [h]; rfl
theorem rdCode_ok {n : Nat} {b : List Int} (h : okR b = true) (done : List In4) : mapC done (rdCode (n + 1) b) = mapC (done ++ [insR b]) (rdCode n (b.drop (szR (opR b)))) := by
  conv => lhs; unfold rdCode
  rw [if_pos h]
  cases rdCode n (b.drop (szR (opR b))) with
  | none => rfl
  | some p => obtain ⟨c, r⟩ := p; simp [mapC]
theorem okR_len {b : List Int} (h : okR b = true) : 1 ≤ szR (opR b) ∧ szR (opR b) ≤ b.length := by
  unfold okR at h
  simp only [Bool.and_eq_true] at h
  exact ⟨by unfold szR; omega, of_decide_eq_true h.2⟩
theorem insR_good {b : List Int} (hb : IsBytes b) : True := trivial
set_option maxRecDepth 100000 in
set_option maxHeartbeats 1600000 in
theorem rcode_any (g : Nat) (xs : List Int) (w : World) (h : RdSt w g xs) (hb : IsBytes xs) (hl : xs.length ≤ 274877906944) : Calls Try.prog 70 #[.pointer (some ⟨g, 0, none⟩)] w (RdEnd (fun w' v c => OwnR inE INST w' w.heap.size v c) (rdCodes xs) w g) := by
  have hgl := rdSt_lt h
  cases xs with
  | nil =>
    go_enter Try.func70, Try.ntmps70
    go_wp2_with fail
    refine (num_no g _ h).mono ?_
    rintro e w1 ⟨rfl, rfl⟩
    go_wp2_with fail
    exact ⟨rfl, rdEnd_none' rfl ⟨rfl, gb_refl _ _⟩⟩
  | cons x r =>
    have hx := hb x (List.mem_cons_self ..)
    have hbr : IsBytes r := fun y hy => hb y (List.mem_cons_of_mem _ hy)
    obtain ⟨n, rfl⟩ : ∃ n : Nat, x = n := ⟨x.toNat, by omega⟩
    have hn : (n : Int) < 256 := hx.2
    have hlr : r.length ≤ 274877906944 := by simp only [List.length_cons] at hl; omega
    have HR : Hid (rdCodes ((n : Int) :: r) = mapC [] (rdCode n r)) := by
      show _ = _
      have e : rdCodes ((n : Int) :: r) = rdCode n r := by unfold rdCodes; simp
      rw [e]
      cases rdCode n r with
      | none => rfl
      | some p => obtain ⟨c, r⟩ := p; rfl
    have HB := Lib.hid hbr
    have HLR := Lib.hid hlr
    clear hb hbr hl hlr
    go_enter Try.func70, Try.ntmps70
    go_wp2_with fail
    refine (num_ok g n r _ h hx).mono ?_
    rintro e w1 ⟨rfl, hst1, hg1⟩
    have HST := Lib.hid hst1
    have HG1 := Lib.hid hg1
    clear hst1 hg1 h hx
    go_wp2_with fail
    go_loopw [3, 9] (fun v i wr => ∃ k : Nat, k ≤ n ∧ i = .int .i64 k ∧ ∃ (done : List In4) (b : List Int), Hid (rdCodes ((n : Int) :: r) = mapC done (rdCode (n - k) b)) ∧ Hid (done.length = k) ∧ Hid (IsBytes b) ∧ Hid (b.length ≤ 274877906944) ∧ Hid (OwnR inE INST wr w.heap.size v done) ∧ Hid (RdSt wr g b) ∧ Hid (w.grownBy wr (some g))) (fun _ i _ => n - (intOf i).toNat)
    case atStart => exact ⟨0, Nat.zero_le _, rfl, [], r, HR.out, rfl, HB.out, HLR.out, ownR_nil _ _, HST.out, HG1.out⟩
    case round =>
      obtain ⟨k, hk, rfl, done, b, he, hdl, hbb, hbl, ho, hs, hg⟩ := hrel
      have k0 : (0 : Int) ≤ k := by omega
      by_cases hlt : k < n
      · have k1 : (k : Int) < n := by omega
        have HE : Hid (rdCodes ((n : Int) :: r) = mapC done (rdCode ((n - (k + 1)) + 1) b)) := by
          show _ = _
          have e := he.out
          rw [show n - k = (n - (k + 1)) + 1 by omega] at e
          exact e
        have hsg := hs.out
        obtain ⟨hty, v0, hblk, hrd, hob⟩ := hsg
        obtain ⟨c0, cf⟩ := blk1 hblk
        clear hblk hty hob
        rcases Bool.eq_false_or_eq_true (okR b) with hok | hok
        · obtain ⟨hz1, hz2⟩ := okR_len hok
          have HE2 : Hid (rdCodes ((n : Int) :: r) = mapC (done ++ [insR b]) (rdCode (n - (k + 1)) (b.drop (szR (opR b))))) := by show _ = _; rw [HE.out, rdCode_ok hok]
          have HOK := Lib.hid hok
          have HSZ := Lib.hid (And.intro hz1 hz2)
          clear hok hz1 hz2
          go_wp2_with fail
          refine (iread_ok _ b _ hrd hbb.out hbl.out HOK.out).mono ?_
          rintro e w2 ⟨rfl, hb2⟩
          obtain ⟨iop, hiop⟩ : ∃ iop, iop = opR b := ⟨_, rfl⟩
          obtain ⟨ix, hix⟩ : ∃ ix, ix = xR b := ⟨_, rfl⟩
          obtain ⟨ia, hia⟩ : ∃ ia, ia = aR b := ⟨_, rfl⟩
          obtain ⟨ib, hib⟩ : ∃ ib, ib = bR b := ⟨_, rfl⟩
          obtain ⟨sz, hsz⟩ : ∃ sz, sz = szR (opR b) := ⟨_, rfl⟩
          rw [← hsz, ← hiop, ← hix, ← hia, ← hib]
          have HI : Hid (insR b = ⟨iop, ix, ia, ib⟩) := by show _ = _; unfold insR; rw [← hiop, ← hix, ← hia, ← hib]
          have hz1 : (1 : Int) ≤ sz := by have := HSZ.out.1; omega
          have HZ2 : Hid ((sz : Int) ≤ b.length) := by show _ ≤ _; have := HSZ.out.2; omega
          have HSE := Lib.hid hsz
          have ho2 := ownR_below ho.out hb2
          have hs2 := rdSt_below hs.out hb2
          have hg2 := gb_below hg.out hb2
          have h2s := hg2.size
          clear hsz hiop hix hia hib hb2 hrd c0 cf
          unfold instV
          have BI : Blk (w2.alloc (.cells #[.int .i64 iop, .int .u64 ix, .int .i64 ia, .int .i64 ib] INST)) w2.heap.size [.int .i64 iop, .int .u64 ix, .int .i64 ia, .int .i64 ib] := blk_new _ _ _
          have HBI := Lib.hid BI
          clear BI
          go_wp2_with fail
          refine (must_yes _).mono ?_
          rintro e w3 ⟨rfl, rfl⟩
          go_wp2_with fail
          refine (take_ok g sz b _ (rdSt_alloc hs2 _) hz1 HZ2.out).mono ?_
          rintro e w4 ⟨v4, rfl, _, hs4, hg4⟩
          have hs4 : RdSt w4 g (b.drop sz) := hs4
          have hne : some w2.heap.size ≠ some g := by intro e; injection e with e; omega
          have hne' : (Value.ownBlock u3 = none ∨ Value.ownBlock u3 ≠ some g) := by
            cases hv : u3.ownBlock with
            | none => exact Or.inl rfl
            | some j => exact Or.inr (by intro e; injection e with e; have := (ownR_lt ho.out j hv).1; omega)
          have B4 := blk_grown HBI.out hg4 hne
          obtain ⟨d0, d1, d2, d3, df⟩ := blk4 B4
          have ho4 := ownR_kept (ownR_alloc ho2 (.cells #[.int .i64 iop, .int .u64 ix, .int .i64 ia, .int .i64 ib] INST)) hg4 hne'
          have hgg := gb_trans (gb_alloc hg2 (.cells #[.int .i64 iop, .int .u64 ix, .int .i64 ia, .int .i64 ib] INST)) hg4
          have hszz := hgg.size
          have HOA := Lib.hid (ownR_alloc ho4 (.cells #[.int .i64 iop, .int .u64 ix, .int .i64 ia, .int .i64 ib] INST))
          have HSA := Lib.hid (rdSt_alloc hs4 (.cells #[.int .i64 iop, .int .u64 ix, .int .i64 ia, .int .i64 ib] INST))
          have HGA := Lib.hid (gb_alloc hgg (.cells #[.int .i64 iop, .int .u64 ix, .int .i64 ia, .int .i64 ib] INST))
          have HRN := Lib.hid (show ReadR inE (w4.alloc (.cells #[.int .i64 iop, .int .u64 ix, .int .i64 ia, .int .i64 ib] INST)) (.slice (some ⟨w4.heap.size, 0, none⟩) 1 1) [⟨iop, ix, ia, ib⟩] from readR_new (c := inE) w4 INST ⟨iop, ix, ia, ib⟩)
          clear B4 ho4 hgg hs4 hg4 ho2 hs2 hg2 hne hne'
          have HDL : Hid (done.length ≤ 256) := by show _ ≤ _; have := hdl.out; omega
          go_wp2_with (at_builtin; (refine appendR rowPIn rfl _ _ rfl w.heap.size _ _ rfl HOA.out _ [⟨iop, ix, ia, ib⟩] rfl HRN.out ?c1 ?c2 ?c3 ?_); (case c1 => (have := HDL.out; rw [List.length_singleton]; omega)); (case c2 => (have := HDL.out; rw [List.length_singleton]; unfold maxLen; omega)); (case c3 => (simp only [World.size_alloc]; omega)); intro v5 w5 own5 hg5; have hst5 := rdSt_grown HSA.out hg5 (fun j e => by have := (ownR_lt HOA.out j e).1; omega); have hgg5 := gb_newer HGA.out hg5 (fun j e => (ownR_lt HOA.out j e).1); clear hg5)
          have HO5 := Lib.hid own5
          have HS5 := Lib.hid hst5
          have HG5 := Lib.hid hgg5
          clear own5 hst5 hgg5 d0 d1 d2 d3 df
          go_roundw
          case rel => exact ⟨k + 1, by omega, by first | rfl | trivial | go_num, done ++ [(⟨iop, ix, ia, ib⟩ : In4)], b.drop sz, by rw [← HI.out, HSE.out]; exact HE2.out, (by show _ = _; rw [List.length_append, hdl.out]; rfl), isBytes_drop hbb.out _, (by show _ ≤ _; have := hbl.out; rw [List.length_drop]; omega), HO5.out, HS5.out, HG5.out⟩
          case measure => simp [intOf]; omega
        · have HN : Hid (rdCodes ((n : Int) :: r) = none) := by show _ = _; rw [HE.out, rdCode_no hok]; rfl
          have HOK := Lib.hid hok
          clear hok
          go_wp2_with fail
          refine (iread_no _ b _ hrd hbb.out hbl.out HOK.out).mono ?_
          rintro e w2 ⟨rfl, hb2⟩
          have hg2 := gb_below hg.out hb2
          clear hb2 hrd c0 cf
          unfold instV
          go_wp2_with fail
          refine (must_no _).mono ?_
          rintro e w3 ⟨rfl, rfl⟩
          go_wp2_with fail
          exact ⟨rfl, rdEnd_none' HN.out ⟨rfl, gb_alloc hg2 _⟩⟩
      · have e : k = n := by omega
        subst e
        have HN : Hid (rdCodes ((k : Int) :: r) = some (done, b)) := by
          show _ = _
          rw [he.out, Nat.sub_self]
          show mapC done (some ([], b)) = _
          simp [mapC]
        go_wp2_with fail
        go_ret
        exact rdEnd_some' HN.out ⟨_, rfl, ho.out, hs.out, hg.out⟩
end Go.Proofs.Ytdhkemnebppkhaa
