/- Layer 17's 'step', any call. Conditions: an arena and the document's row, alike; a call whose numbers are of their kinds. -/
import Derived.Test.YtgbbnmjfkhconaaObjT0x
import Derived.Test.YtgbbnmjfkhconaaObjT1
import Derived.Test.YtgbbnmjfkhconaaObjT2
import Derived.Test.YtgbbnmjfkhconaaObjT3
import Derived.Test.YtgbbnmjfkhconaaObjT4
import Derived.Test.YtgbbnmjfkhconaaObjT6
import Derived.Test.YtgbbnmjfkhconaaObjT7
import Derived.Test.YtgbbnmjfkhconaaObjT9
import Derived.Test.YtgbbnmjfkhconaaObjT10
import Derived.Test.YtgbbnmjfkhconaaObjO
namespace Go.Proofs.Ytgbbnmjfkhconaa
open Go.RowKit
set_option linter.unusedVariables false
theorem step17_any {w wr : World} {b g cap gr cr : Nat} {L : List Int} (P : PlO w wr b g cap gr cr L) (o : Op17) (ho : Good17 o) : Calls Try.prog 49 #[tp b, rowV gr L cr, opV o.k o.a o.f o.t o.v o.r o.n] wr (StepRet w b g cap L.length) := by
  obtain ⟨k, a, f, t, v, r, n⟩ := o
  obtain ⟨hv, ht, _⟩ := ho
  simp only at *
  rcases (show k = 0 ∨ k = 1 ∨ k = 2 ∨ k = 3 ∨ k = 4 ∨ k = 5 ∨ k = 6 ∨ k = 7 ∨ k = 8 ∨ k = 9 ∨ k = 10 ∨ (k < 0 ∨ 10 < k) by omega) with h | h | h | h | h | h | h | h | h | h | h | h
  · subst h; exact step17_k0 P a f t v r n hv ht
  · subst h; exact step17_k1 P a f t v r n hv ht
  · subst h; exact step17_k2 P a f t v r n hv ht
  · subst h; exact step17_k3 P a f t v r n hv ht
  · subst h; exact step17_k4 P a f t v r n hv ht
  · subst h; exact step17_k5 P a f t v r n hv ht
  · subst h; exact step17_k6 P a f t v r n hv ht
  · subst h; exact step17_k7 P a f t v r n hv ht
  · subst h; exact step17_k8 P a f t v r n hv ht
  · subst h; exact step17_k9 P a f t v r n hv ht
  · subst h; exact step17_k10 P a f t v r n hv ht
  · exact step17_kx P k a f t v r n hv ht h
end Go.Proofs.Ytgbbnmjfkhconaa
