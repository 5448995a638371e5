/- Layer 26: the document's Deal, whatever the instruction. Conditions: those stated. -/
import Derived.Test.YtdmidnmciaediaaZVerD1
import Derived.Test.YtdmidnmciaediaaZVerD3
namespace Go.Proofs.Ytdmidnmciaediaa
open Go.RowKit
set_option linter.unusedVariables false
set_option linter.unusedSimpArgs false
attribute [local go_sem] over_cell over_frozen
theorem rdeal_any (p : PrV) (P : PrM) (v : FnV) (f : FnM) (op x a b : Int) (sa : Option Addr) (sc : Nat) (st : List Int) (w : World) (h : ReadP w p P) (hs : SmallP P) (hf : DeepF w v f) (h1 : f.ps.length ≤ 10) (h2 : f.ls.length ≤ 10) (hst : ReadI w (.slice sa st.length sc) st) (hl : st.length ≤ 100) (hk1 : ∀ y ∈ f.ps ++ f.ls, 0 ≤ y) (hk2 : ∀ y ∈ P.gl, 0 ≤ y) (h0 : 0 ≤ op) (h37 : op < 37) (ha : 0 ≤ a) : Calls Try.prog 81 #[aggP p, aggF v, .agg #[.int .i64 op, .int .u64 x, .int .i64 a, .int .i64 b], .slice sa st.length sc] w (RetD w (deal P f ⟨op, x, a, b⟩ st)) := by
  by_cases e4 : op = 4
  · subst e4; exact rdeal4 p P v f x a b sa sc st w h hs hf h1 h2 hst hl hk1
  by_cases e5 : op = 5
  · subst e5; exact rdeal5 p P v f x a b sa sc st w h hs hf h1 h2 hst hl hk1
  by_cases e6 : op = 6
  · subst e6; exact rdeal6 p P v f x a b sa sc st w h hs hf h1 h2 hst hl hk2
  by_cases e7 : op = 7
  · subst e7; exact rdeal7 p P v f x a b sa sc st w h hs hf h1 h2 hst hl hk2
  by_cases e8 : op = 8
  · subst e8; exact rdeal8 p P v f x a b sa sc st w h hs hf h1 h2 hst hl 
  by_cases e9 : op = 9
  · subst e9; exact rdeal9 p P v f x a b sa sc st w h hs hf h1 h2 hst hl 
  by_cases e10 : op = 10
  · subst e10; exact rdeal10 p P v f x a b sa sc st w h hs hf h1 h2 hst hl 
  by_cases e11 : op = 11
  · subst e11; exact rdeal11 p P v f x a b sa sc st w h hs hf h1 h2 hst hl 
  by_cases e14 : op = 14
  · subst e14; exact rdeal14 p P v f x a b sa sc st w h hs hf h1 h2 hst hl ha
  by_cases e15 : op = 15
  · subst e15; exact rdeal15 p P v f x a b sa sc st w h hs hf h1 h2 hst hl 
  by_cases e17 : op = 17
  · subst e17; exact rdeal17 p P v f x a b sa sc st w h hs hf h1 h2 hst hl 
  by_cases e28 : op = 28
  · subst e28; exact rdeal28 p P v f x a b sa sc st w h hs hf h1 h2 hst hl ha
  by_cases e31 : op = 31
  · subst e31; exact rdeal31 p P v f x a b sa sc st w h hs hf h1 h2 hst hl 
  by_cases e32 : op = 32
  · subst e32; exact rdeal32 p P v f x a b sa sc st w h hs hf h1 h2 hst hl 
  by_cases e36 : op = 36
  · subst e36; exact rdeal36 p P v f x a b sa sc st w h hs hf h1 h2 hst hl 
  obtain ⟨n, rfl⟩ : ∃ n : Nat, op = n := ⟨op.toNat, by omega⟩
  have hno : n ∉ [4, 5, 6, 7, 8, 9, 10, 11, 14, 15, 17, 28, 31, 32, 36] := by simp only [List.mem_cons, List.not_mem_nil, or_false]; omega
  rw [deal_plain (n := n) rfl hno]
  exact rdeal_plain p P v f n x a b sa sc st w h hs hf h1 h2 hst hl (by omega) hno
end Go.Proofs.Ytdmidnmciaediaa
