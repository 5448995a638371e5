/- Chapter 24's example. No conditions. -/
import Derived.Test.YtdhkemnebppkhaaInstrBytes
import Derived.Test.YtdhkemnebppkhaaInstrName
import Derived.Laws.IdiomStrings
namespace Go.Proofs.Ytdhkemnebppkhaa
open Go.RowKit
set_option linter.unusedVariables false
set_option linter.unusedSimpArgs false
theorem wake_bytes : bytesI 17 0 1 2 = [17, 1, 0, 2, 0] := by decide
theorem wake_may : mayB 17 0 1 2 = true := by decide
theorem wake_name : nameB 36 = ⟨#[116, 111, 112, 116, 114]⟩ := rfl
/-- Bytes as a string. -/
def bytesOf (xs : List Int) : ByteArray := ⟨(xs.map (fun x => UInt8.ofNat x.toNat)).toArray⟩
theorem conv_bytes {w : World} {a : Addr} {n cap : Nat} {xs : List Int} (hn : xs.length = n) (hb : IsBytes xs) (hc : ∀ j, j < n → w.cell? (a.add j) = some (.int .u8 (xs.getD j 0))) :
    (convert 37 9 (.slice (some a) n cap)).run Try.prog w = .ok (.string (bytesOf xs)) w := by
  have h := run_convert_bytes_back (P := Try.prog) w 37 9 5 a cap (xs.map (fun x => UInt8.ofNat x.toNat)) under_byts Try.underlying5 Try.underlying9 (fun j hj => by
    rw [List.length_map] at hj
    rw [hc j (by omega)]
    have e := isBytes_at hb j hj
    rw [List.getElem_map]
    have e2 : xs.getD j 0 = xs[j] := by rw [List.getD_eq_getElem?_getD, List.getElem?_eq_getElem hj]; rfl
    rw [e2] at e ⊢
    have e3 : ((UInt8.ofNat xs[j].toNat).toNat : Int) = xs[j] := by
      rw [UInt8.toNat_ofNat']; omega
    rw [e3])
  rw [List.length_map, hn] at h
  exact h
theorem awake24 (w : World) : Calls Try.prog 18 #[] w fun e w' => e = .returned (.bool true) ∧ Below w.heap.size w w' := by
  go_enter Try.func18, Try.ntmps18
  go_wp2_with fail
  refine (ibytes_some 17 0 1 2 _ wake_may (by omega) (by omega)).mono ?_
  rintro e w1 ⟨v, rfl, own, hb1⟩
  rw [wake_bytes] at own
  have hr := ownB_read own
  obtain ⟨g, cap, rfl, h1, h2, h3, h4, h5, h6⟩ := ownB_form own (by decide)
  have hcv := conv_bytes (w := w1) (a := ⟨g, 0, none⟩) (n := 5) (cap := cap) (xs := [17, 1, 0, 2, 0]) rfl (by unfold IsBytes; decide) (fun j hj => by rw [Addr.add_lit, Nat.zero_add]; exact h5 j hj)
  rw [show bytesOf [17, 1, 0, 2, 0] = ⟨#[17, 1, 0, 2, 0]⟩ from rfl] at hcv
  clear own hr h5 h6 h3 h4
  go_wp2_with fail
  refine (name_any _ _).mono ?_
  rintro e w2 ⟨rfl, hb2⟩
  rw [wake_name]
  go_wp2_with fail
  go_ret
  exact ⟨rfl, b_call hb1 hb2⟩
end Go.Proofs.Ytdhkemnebppkhaa
