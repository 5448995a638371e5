/- Chapter 25's example. No conditions. -/
import Derived.Test.YtdhkemnebppkhaaByt25
import Derived.Test.YtdhkemnebppkhaaInstrWake
namespace Go.Proofs.Ytdhkemnebppkhaa
open Go.RowKit
set_option linter.unusedVariables false
set_option linter.unusedSimpArgs false
def prW : PrM := ⟨false, [], 0, [⟨[], [], 0, [⟨0, 0, 0, 0⟩]⟩]⟩
theorem wake_may25 : mayP prW = true := by decide
theorem wake_good25 : GoodP prW := by
  intro f hf i hi
  simp only [prW, List.mem_singleton] at hf
  subst hf
  simp only [List.mem_singleton] at hi
  subst hi
  exact ⟨by decide, by decide⟩
theorem wake_byt25 : bytP prW = [84, 77, 66, 49, 0, 0, 0, 1, 0, 0, 0, 1, 0] := by decide
set_option maxHeartbeats 800000 in
theorem awake25 (w : World) : Calls Try.prog 26 #[] w fun e w' => e = .returned (.bool true) ∧ Below w.heap.size w w' := by
  have hR : ReadP ((w.alloc (.cells #[.int .i64 0, .int .u64 0, .int .i64 0, .int .i64 0] INST)).alloc (.cells #[.slice none 0 0, .slice none 0 0, .int .i64 0, .slice (some ⟨w.heap.size, 0, none⟩) 1 1] FUNT))
      ⟨false, ⟨none, 0, 0⟩, 0, ⟨some ⟨w.heap.size + 1, 0, none⟩, 1, 1⟩⟩ prW := by
    have h1 : ReadR inE (w.alloc (.cells #[.int .i64 0, .int .u64 0, .int .i64 0, .int .i64 0] INST)) (.slice (some ⟨w.heap.size, 0, none⟩) 1 1) [⟨0, 0, 0, 0⟩] := readR_new (c := inE) w INST ⟨0, 0, 0, 0⟩
    have h2 := readR_new (c := fnE) (w.alloc (.cells #[.int .i64 0, .int .u64 0, .int .i64 0, .int .i64 0] INST)) FUNT ⟨⟨none, 0, 0⟩, ⟨none, 0, 0⟩, 0, ⟨some ⟨w.heap.size, 0, none⟩, 1, 1⟩⟩
    rw [World.size_alloc] at h2
    exact ⟨rfl, readI_nil _, rfl, _, h2, ⟨readI_nil _, readI_nil _, rfl, readR_below h1 (b_alloc (Below.refl _ _) _)⟩, trivial⟩
  have HR := Lib.hid hR
  have HB := Lib.hid (b_alloc (b_alloc (Below.refl w.heap.size w) (.cells #[.int .i64 0, .int .u64 0, .int .i64 0, .int .i64 0] INST)) (.cells #[.slice none 0 0, .slice none 0 0, .int .i64 0, .slice (some ⟨w.heap.size, 0, none⟩) 1 1] FUNT))
  clear hR
  go_enter Try.func26, Try.ntmps26
  go_wp2_with fail
  refine (pbytes_some ⟨false, ⟨none, 0, 0⟩, 0, ⟨some ⟨w.heap.size + 1, 0, none⟩, 1, 1⟩⟩ prW _ HR.out wake_may25 wake_good25).mono ?_
  rintro e w1 ⟨v, rfl, own, hb1⟩
  rw [wake_byt25] at own
  obtain ⟨g, cap, rfl, h1, h2, h3, h4, h5, h6⟩ := ownB_form own (by decide)
  have hcv := conv_bytes (w := w1) (a := ⟨g, 0, none⟩) (n := 13) (cap := cap) (xs := [84, 77, 66, 49, 0, 0, 0, 1, 0, 0, 0, 1, 0]) rfl (by unfold IsBytes; decide) (fun j hj => by rw [Addr.add_lit, Nat.zero_add]; exact h5 j hj)
  rw [show bytesOf [84, 77, 66, 49, 0, 0, 0, 1, 0, 0, 0, 1, 0] = ⟨#[84, 77, 66, 49, 0, 0, 0, 1, 0, 0, 0, 1, 0]⟩ from rfl] at hcv
  have HB1 := Lib.hid (b_call HB.out hb1)
  clear own h5 h6 h3 h4 hb1
  go_wp2_with fail
  go_ret
  exact ⟨rfl, HB1.out⟩
end Go.Proofs.Ytdhkemnebppkhaa
