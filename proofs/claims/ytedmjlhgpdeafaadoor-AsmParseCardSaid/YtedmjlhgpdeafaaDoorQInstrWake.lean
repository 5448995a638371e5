/- Chapter 24's example. No conditions. -/
import Derived.Test.YtedmjlhgpdeafaaDoorQInstrBytes
import Derived.Test.YtedmjlhgpdeafaaDoorQInstrName
import Derived.Laws.IdiomStrings
namespace Go.Proofs.YtedmjlhgpdeafaaDoor
open Go.RowKit
set_option linter.unusedVariables false
set_option linter.unusedSimpArgs false
/-- Bytes as a string. -/
def bytesOf (xs : List Int) : ByteArray := ⟨(xs.map (fun x => UInt8.ofNat x.toNat)).toArray⟩
theorem conv_bytes {w : World} {a : Addr} {n cap : Nat} {xs : List Int} (hn : xs.length = n) (hb : IsBytes xs) (hc : ∀ j, j < n → w.cell? (a.add j) = some (.int .u8 (xs.getD j 0))) :
    (convert 51 9 (.slice (some a) n cap)).run Tryd.prog w = .ok (.string (bytesOf xs)) w := by
  have h := run_convert_bytes_back (P := Tryd.prog) w 51 9 5 a cap (xs.map (fun x => UInt8.ofNat x.toNat)) under_byts Tryd.underlying5 Tryd.underlying9 (fun j hj => by
    rw [List.length_map] at hj
    rw [hc j (by omega)]
    have e := isBytes_at hb j hj
    rw [List.getElem_map]
    have e2 : xs.getD j 0 = xs[j] := by rw [List.getD_eq_getElem?_getD, List.getElem?_eq_getElem hj]; rfl
    rw [e2] at e ⊢
    have e3 : ((UInt8.ofNat xs[j].toNat).toNat : Int) = xs[j] := by
      rw [UInt8.toNat_ofNat']; omega
    rw [e3])
  rw [List.length_map, hn] at h
  exact h
end Go.Proofs.YtedmjlhgpdeafaaDoor
