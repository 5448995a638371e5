/- Layer 34: the program's Parse. Conditions: those stated; where the library's MaxLen stands it holds a number. -/
import Derived.Test.YtedmjlhgpdeafaaDoorPAsmU
import Derived.Test.YtedmjlhgpdeafaaDoorPMayPa
namespace Go.Proofs.YtedmjlhgpdeafaaDoor
open Go.RowKit
set_option linter.unusedVariables false
set_option linter.unusedSimpArgs false
variable {W0 w : World} {rb : Nat} {fi : Bool} {nx : Value} {P : PrM} {g s : Sl}
/-- Where the library's MaxLen stands, a number stands. -/
def MaxAt (w : World) : Prop := 0 < w.heap.size ∧ ∃ m : Int, w.cell? ⟨0, 0, none⟩ = some (.int .i64 m)
theorem max_below {w' : World} (h : MaxAt w) (hb : Below w.heap.size w w') : MaxAt w' := by
  obtain ⟨h1, m, h2⟩ := h
  exact ⟨Nat.lt_of_lt_of_le h1 hb.size, m, ((bcell hb).1 0 0 h1).trans h2⟩
theorem below_drewN {w : World} (n : Nat) : Below w.heap.size w (w.drewN n) := b_drewN (Below.refl _ _) n
theorem ablank_any (x : Nat) (w : World) : Calls Tryd.prog 29 #[.int .i32 (x : Int)] w fun e w' => e = .returned (.bool (isBR x)) ∧ Below w.heap.size w w' := by
  have h1 : ((x : Int) == 32) = (x == 32) := by
    by_cases h : x = 32
    · rw [h]; rfl
    · rw [beq_false_of_ne (by omega), beq_false_of_ne h]
  have h2 : ((x : Int) == 9) = (x == 9) := by
    by_cases h : x = 9
    · rw [h]; rfl
    · rw [beq_false_of_ne (by omega), beq_false_of_ne h]
  have HE : Hid (isBR x = (((x : Int) == 32) || ((x : Int) == 9))) := Lib.hid (by unfold isBR; rw [h1, h2])
  clear h1 h2
  rw [HE.out]
  cases ha : ((x : Int) == 32) with
  | true =>
    go_enter Tryd.func29, Tryd.ntmps29
    go_wp2_with fail
    go_ret
    exact ⟨rfl, Below.refl _ _⟩
  | false =>
    cases hb : ((x : Int) == 9) with
    | true =>
      go_enter Tryd.func29, Tryd.ntmps29
      go_wp2_with fail
      go_ret
      exact ⟨rfl, Below.refl _ _⟩
    | false =>
      go_enter Tryd.func29, Tryd.ntmps29
      go_wp2_with fail
      go_ret
      exact ⟨rfl, Below.refl _ _⟩
/-- The words of a line without its remark. -/
theorem sfields_any (l : List UInt8) (w : World) (hl : l.length ≤ 1000000) : Calls Tryd.prog 28 #[.string ⟨(uptoC 59 l).toArray⟩, .func (.func 29) #[] #[]] w fun e w' => ∃ A, e = .returned (.slice (some ⟨A, 0, none⟩) (wordsL l).length (wordsL l).length) ∧ ReadR strE w' (.slice (some ⟨A, 0, none⟩) (wordsL l).length (wordsL l).length) (wordsL l) ∧ Below w.heap.size w w' := by
  have hu := uptoC_len 59 l
  have hws : (Lib.goFieldsP isBR ⟨(uptoC 59 l).toArray⟩).map (·.data.toList) = wordsL l := by
    rw [fields_words]
    show wordsP [] (uptoC 59 l) = wordsGo [] l
    rw [words_cut]
  have q := Tryd.strings_FieldsFunc_grows 29 #[] (fun _ _ => by kernel_rfl) isBR ⟨(uptoC 59 l).toArray⟩ w (by show (uptoC 59 l).toArray.size ≤ _; simp; omega) (fun W x _ _ => ablank_any x W)
  have hlen : (Lib.goFieldsP isBR ⟨(uptoC 59 l).toArray⟩).length = (wordsL l).length := by rw [← hws, List.length_map]
  refine q.mono fun e w' ⟨A, h1, h2, h3, h4⟩ => ⟨A, by rw [h1, hlen], ?_, h4⟩
  rw [hlen] at h3
  have e : (Lib.goFieldsP isBR ⟨(uptoC 59 l).toArray⟩).map Value.string = strE.row (wordsL l) := by
    rw [← hws]
    generalize Lib.goFieldsP isBR ⟨(uptoC 59 l).toArray⟩ = X
    induction X with
    | nil => rfl
    | cons x r ih =>
      rw [List.map_cons, List.map_cons, row_cons, ih]
      show _ = [Value.string ⟨x.data.toList.toArray⟩] ++ _
      rw [barr]; rfl
  rw [e] at h3
  exact ownR_read (c := strE) (E := STRT) h3
theorem ssplit_any (l : List UInt8) (w : World) (hl : l.length ≤ 1000000) (hm : MaxAt w) : Calls Tryd.prog 26 #[.string ⟨l.toArray⟩, .string ⟨#[10]⟩] w fun e w' => ∃ A, e = .returned (.slice (some ⟨A, 0, none⟩) (linesL l).length (linesL l).length) ∧ ReadR strE w' (.slice (some ⟨A, 0, none⟩) (linesL l).length (linesL l).length) (linesL l) ∧ tyB w' A = some STRT ∧ Below w.heap.size w w' := by
  obtain ⟨m, hm⟩ := hm.2
  have q := Tryd.strings_Split ⟨l.toArray⟩ ⟨#[10]⟩ m w (by show l.toArray.size < _; simp; omega) hm (by decide)
  have hcnt : Lib.countB ⟨l.toArray⟩ ⟨#[10]⟩ = Lib.count l [10] := rfl
  have hmap : (Lib.splitB ⟨#[10]⟩ 0 (Lib.countB ⟨l.toArray⟩ ⟨#[10]⟩) ⟨l.toArray⟩).map (·.data.toList) = linesL l := by
    rw [Lib.splitB_data, hcnt]
    exact split_lines _ l rfl
  have hlen : Lib.countB ⟨l.toArray⟩ ⟨#[10]⟩ + 1 = (linesL l).length := by
    rw [← hmap, List.length_map, Lib.splitB_all ⟨#[10]⟩ (by decide) 0 _ ⟨l.toArray⟩ rfl]
  refine q.mono fun e w' ⟨h1, h2⟩ => ⟨w.heap.size, by rw [h1, hlen], ?_, by rw [h2]; exact tyB_new _ _ _, by rw [h2]; exact b_alloc (Below.refl _ _) _⟩
  have e : (Lib.splitB ⟨#[10]⟩ 0 (Lib.countB ⟨l.toArray⟩ ⟨#[10]⟩) ⟨l.toArray⟩).map Value.string = strE.row (linesL l) := by
    rw [← hmap]
    generalize Lib.splitB ⟨#[10]⟩ 0 (Lib.countB ⟨l.toArray⟩ ⟨#[10]⟩) ⟨l.toArray⟩ = X
    induction X with
    | nil => rfl
    | cons x r ih =>
      rw [List.map_cons, List.map_cons, row_cons, ih]
      show _ = [Value.string ⟨x.data.toList.toArray⟩] ++ _
      rw [barr]; rfl
  have hb := blk_new w ((Lib.splitB ⟨#[10]⟩ 0 (Lib.countB ⟨l.toArray⟩ ⟨#[10]⟩) ⟨l.toArray⟩).map Value.string).toArray 9
  rw [← h2] at hb
  have hb2 : Blk w' w.heap.size (strE.row (linesL l)) := by rw [← e]; exact hb
  exact readR_blk hb2 (Nat.le_refl _) (by have := lines_len l []; unfold maxLen; show (linesGo [] l).length ≤ _; omega)
theorem scut_any (l : List UInt8) (w : World) (hl : l.length ≤ 1000000) (hm : MaxAt w) : Calls Tryd.prog 27 #[.string ⟨l.toArray⟩, .string ⟨#[59]⟩] w fun e w' => ∃ (x : List UInt8) (y : Bool), e = .returned (.tuple #[.string ⟨(uptoC 59 l).toArray⟩, .string ⟨x.toArray⟩, .bool y]) ∧ Below w.heap.size w w' := by
  obtain ⟨m, hm⟩ := hm.2
  have q := Tryd.strings_Cut ⟨l.toArray⟩ ⟨#[59]⟩ m w (by show l.toArray.size < _; simp; omega) hm
  refine q.mono fun e w' ⟨h1, n, h2⟩ => ⟨(Lib.cut l [59]).2.1, (Lib.cut l [59]).2.2, ?_, by rw [h2]; exact below_drewN n⟩
  have e2 : (Lib.cut (⟨l.toArray⟩ : ByteArray).data.toList (⟨#[59]⟩ : ByteArray).data.toList).1 = uptoC 59 l := cut_upto l 59
  rw [h1, e2]
end Go.Proofs.YtedmjlhgpdeafaaDoor
