/- Layer 24: the words of instructions, as instr.Name finds them. No conditions. -/
import Derived.Test.YtedmjlhgpdeafaaDoorQBytes
namespace Go.Proofs.YtedmjlhgpdeafaaDoor
open Go.RowKit
set_option linter.unusedVariables false
set_option linter.unusedSimpArgs false
def wsL : List UInt8 := (([110, 111, 112, 32, 112, 117, 115, 104, 32, 112, 117, 115, 104, 102, 32, 110, 105, 108, 32, 103, 101, 116, 32, 115, 101, 116, 32, 103, 103, 101, 116, 32, 103, 115, 101, 116, 32, 112, 111, 112, 32, 100, 117, 112, 32].append [117, 110, 32, 98, 105, 110, 32, 106, 117, 109, 112, 32, 106, 122, 32, 99, 97, 108, 108, 32, 114, 101, 116, 32, 112, 111, 108, 108, 32, 110, 101, 119, 32, 114, 103, 101, 116, 32, 114, 115, 101, 116, 32, 110, 103]).append ([101, 116, 32, 110, 115, 101, 116, 32, 105, 115, 110, 105, 108, 32, 109, 97, 108, 108, 111, 99, 32, 102, 114, 101, 101, 32, 108, 111, 97, 100, 32, 115, 116, 111, 114, 101, 32, 112, 110, 105, 108, 32, 115, 112, 97].append [119, 110, 32, 106, 111, 105, 110, 32, 121, 105, 101, 108, 100, 32, 108, 111, 99, 107, 32, 117, 110, 108, 111, 99, 107, 32, 108, 111, 103, 32, 108, 111, 103, 102, 32, 116, 114, 97, 112, 32, 116, 111, 112, 116, 114, 32]))
def WS : ByteArray := ⟨wsL.toArray⟩
def wsAt (p : Nat) : Nat := (wsL.getD p 0).toNat
/-- How many blanks stand ahead of p, and where the word begins. -/
def scan : Nat → Nat × Nat
  | 0 => (0, 0)
  | p + 1 => if wsAt p = 32 then ((scan p).1 + 1, p + 1) else scan p
theorem ws_fold : (⟨((([110, 111, 112, 32, 112, 117, 115, 104, 32, 112, 117, 115, 104, 102, 32, 110, 105, 108, 32, 103, 101, 116, 32, 115, 101, 116, 32, 103, 103, 101, 116, 32, 103, 115, 101, 116, 32, 112, 111, 112, 32, 100, 117, 112, 32].append [117, 110, 32, 98, 105, 110, 32, 106, 117, 109, 112, 32, 106, 122, 32, 99, 97, 108, 108, 32, 114, 101, 116, 32, 112, 111, 108, 108, 32, 110, 101, 119, 32, 114, 103, 101, 116, 32, 114, 115, 101, 116, 32, 110, 103]).append ([101, 116, 32, 110, 115, 101, 116, 32, 105, 115, 110, 105, 108, 32, 109, 97, 108, 108, 111, 99, 32, 102, 114, 101, 101, 32, 108, 111, 97, 100, 32, 115, 116, 111, 114, 101, 32, 112, 110, 105, 108, 32, 115, 112, 97].append [119, 110, 32, 106, 111, 105, 110, 32, 121, 105, 101, 108, 100, 32, 108, 111, 99, 107, 32, 117, 110, 108, 111, 99, 107, 32, 108, 111, 103, 32, 108, 111, 103, 102, 32, 116, 114, 97, 112, 32, 116, 111, 112, 116, 114, 32]))).toArray⟩ : ByteArray) = WS := rfl
theorem ws_size0 : (WS.size == 181) = true := by kernel_rfl
theorem ws_size : WS.size = 181 := eq_of_beq ws_size0
def scanOk (p : Nat) : Bool := decide (wsAt p < 128) && (wsAt p != 32 || ((WS.extract (scan p).2 p).data.toList == (nameS (scan p).1).data.toList && decide ((scan p).2 ≤ p) && decide ((scan p).1 < 37)))
theorem scan_all : (List.range 181).all scanOk = true := by kernel_rfl
theorem scan_end : (scan 181).1 = 37 := by kernel_rfl
theorem ws_at_all : (List.range 181).all (fun p => (WS.data.getD p 0).toNat == wsAt p) = true := by kernel_rfl
theorem ws_at (p : Nat) (h : p < WS.size) : (WS[p]'h).toNat = wsAt p := by
  have e := List.all_eq_true.1 ws_at_all p (List.mem_range.2 (by rw [← ws_size]; exact h))
  have e2 := eq_of_beq e
  rw [← e2]
  have hs : p < WS.data.size := h
  have : WS.data.getD p 0 = WS.data[p] := by unfold Array.getD; rw [dif_pos hs]; rfl
  rw [this]; rfl
theorem scan_ok (p : Nat) (h : p < 181) : wsAt p < 128 ∧ (wsAt p = 32 → WS.extract (scan p).2 p = nameS (scan p).1 ∧ (scan p).2 ≤ p ∧ (scan p).1 < 37) := by
  have e := List.all_eq_true.1 scan_all p (List.mem_range.2 h)
  unfold scanOk at e
  rw [Bool.and_eq_true, decide_eq_true_iff] at e
  refine ⟨e.1, fun h32 => ?_⟩
  have e2 := e.2
  rw [h32] at e2
  rw [show ((32 : Nat) != 32) = false from rfl, Bool.false_or, Bool.and_eq_true, Bool.and_eq_true, decide_eq_true_iff, decide_eq_true_iff] at e2
  refine ⟨?_, e2.1.2, e2.2⟩
  have e3 := eq_of_beq e2.1.1
  exact ByteArray.ext (Array.toList_inj.1 e3)
def nameB (op : Int) : ByteArray := if 0 ≤ op ∧ op < 37 then nameS op.toNat else ⟨#[]⟩
theorem scan_le : ∀ p, (scan p).1 ≤ p ∧ (scan p).2 ≤ p
  | 0 => ⟨Nat.le_refl _, Nat.le_refl _⟩
  | p + 1 => by
    obtain ⟨h1, h2⟩ := scan_le p
    unfold scan
    split
    · exact ⟨by simp only []; omega, Nat.le_refl _⟩
    · exact ⟨by omega, by omega⟩
theorem name_less (w : World) (p : Nat) (h : p < 181) : (match (w.iter WS (p + 1)).heap.back? with | some (.stringIter _ p) => 181 - p | _ => 0) < (match (w.iter WS p).heap.back? with | some (.stringIter _ p) => 181 - p | _ => 0) := by
  have e : ∀ q, (w.iter WS q).heap.back? = some (.stringIter WS q) := fun q => by
    show (w.heap.push (Obj.stringIter WS q)).back? = _
    simp
  rw [e, e]
  show 181 - (p + 1) < 181 - p
  omega
theorem name_any (op : Int) (w : World) : Calls Tryd.prog 36 #[.int .i64 op] w fun e w' => e = .returned (.string (nameB op)) ∧ Below w.heap.size w w' := by
  go_enter Tryd.func36, Tryd.ntmps36
  simp only [ws_fold]
  go_wp2_with fail
  go_loopw [3, 4, 5, 6, 8] (fun a3 a4 _ _ _ wr => ∃ p : Nat, p ≤ 181 ∧ a3 = .int .i64 ((scan p).1 : Int) ∧ a4 = .int .i64 ((scan p).2 : Int) ∧ wr = w.iter WS p ∧ ¬ (0 ≤ op ∧ op < ((scan p).1 : Int))) (fun _ _ _ _ _ wr => match wr.heap.back? with | some (.stringIter _ p) => 181 - p | _ => 0)
  case atStart => exact ⟨0, by omega, rfl, rfl, rfl, by show ¬ (0 ≤ op ∧ op < 0); omega⟩
  case round =>
    obtain ⟨p, hp, rfl, rfl, rfl, hno⟩ := hrel
    by_cases hlt : p < 181
    · have hi : p < WS.size := by rw [ws_size]; exact hlt
      obtain ⟨s1, s2⟩ := scan_ok p hlt
      obtain ⟨l1, l2⟩ := scan_le p
      have ha : (WS[p]'hi).toNat < 128 := by rw [ws_at]; exact s1
      have hnx := fun ty => run_next_ascii (P := Tryd.prog) w WS p ty hi ha
      rw [ws_at p hi] at hnx
      obtain ⟨c, hc⟩ : ∃ c, c = wsAt p := ⟨_, rfl⟩
      rw [← hc] at hnx s2
      obtain ⟨k, hk⟩ : ∃ k, k = (scan p).1 := ⟨_, rfl⟩
      obtain ⟨f, hf⟩ : ∃ f, f = (scan p).2 := ⟨_, rfl⟩
      rw [← hk, ← hf] at s2
      rw [← hk] at l1 hno
      rw [← hf] at l2
      rw [← hk, ← hf]
      by_cases h32 : c = 32
      · have t : ((c : Int) != 32) = false := by rw [h32]; rfl
        obtain ⟨s3, s4, s5⟩ := s2 h32
        have hst : scan (p + 1) = (k + 1, p + 1) := by
          show (if wsAt p = 32 then ((scan p).1 + 1, p + 1) else scan p) = _
          rw [if_pos (hc ▸ h32), ← hk]
        have HC := Lib.hid hc; have HK := Lib.hid hk; have HF := Lib.hid hf; have HN := Lib.hid hno; have HS := Lib.hid s3; have HI := Lib.hid h32; have HST := Lib.hid hst
        clear hc hk hf hno s1 s2 s3 ha h32 hst
        by_cases hop : (k : Int) = op
        · have tk : ((k : Int) == op) = true := by rw [hop]; simp
          have f0 : (0 : Int) ≤ f := by omega
          have fp : (f : Int) ≤ p := by omega
          have pw : (p : Int) ≤ WS.size := by omega
          have HO := Lib.hid hop; clear hop
          go_wp2_with fail
          go_ret
          refine ⟨?_, b_alloc (Below.refl _ _) _⟩
          have h1 := HO.out
          unfold nameB
          rw [if_pos (by omega), ← h1, Int.toNat_natCast, ← HS.out]; rfl
        · have tk : ((k : Int) == op) = false := beq_false_of_ne hop
          have HO := Lib.hid hop; clear hop
          go_wp2_with fail
          refine ⟨⟨p + 1, by omega, by rw [HST.out]; rfl, by rw [HST.out]; rfl, rfl, ?_⟩, name_less w p hlt⟩
          rw [HST.out]
          have h1 := HN.out; have h2 := HO.out
          show ¬ (0 ≤ op ∧ op < ((k + 1 : Nat) : Int))
          omega
      · have t : ((c : Int) != 32) = true := by rw [bne_iff_ne]; omega
        have HC := Lib.hid hc; have HK := Lib.hid hk; have HF := Lib.hid hf; have HN := Lib.hid hno; have HS := Lib.hid s2; have HI := Lib.hid h32
        clear hc hk hf hno s1 s2 ha h32
        go_wp2_with fail
        have hst : scan (p + 1) = scan p := by
          show (if wsAt p = 32 then ((scan p).1 + 1, p + 1) else scan p) = _
          rw [if_neg (HC.out ▸ HI.out)]
        refine ⟨⟨p + 1, by omega, by rw [hst, HK.out], by rw [hst, HF.out], rfl, by rw [hst, ← HK.out]; exact HN.out⟩, name_less w p hlt⟩
    · have E : p = 181 := by omega
      subst E
      have hnx := fun ty => run_next_end (P := Tryd.prog) w WS 181 ty (by rw [ws_size]; omega)
      have HN := Lib.hid hno
      obtain ⟨k, hk⟩ : ∃ k, k = (scan 181).1 := ⟨_, rfl⟩
      obtain ⟨f, hf⟩ : ∃ f, f = (scan 181).2 := ⟨_, rfl⟩
      rw [← hk, ← hf]
      clear hno
      go_wp2_with fail
      go_ret
      refine ⟨?_, b_alloc (Below.refl _ _) _⟩
      have h1 := HN.out
      rw [scan_end] at h1
      unfold nameB
      rw [if_neg (by omega)]; rfl
end Go.Proofs.YtedmjlhgpdeafaaDoor
