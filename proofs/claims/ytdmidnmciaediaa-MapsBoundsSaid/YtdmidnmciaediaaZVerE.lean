/- Layer 26: the program's deals, whatever the instruction. Conditions: those stated. -/
import Derived.Test.YtdmidnmciaediaaZVerE1
import Derived.Test.YtdmidnmciaediaaZVerE2
import Derived.Test.YtdmidnmciaediaaZVerE3
namespace Go.Proofs.Ytdmidnmciaediaa
open Go.RowKit
set_option linter.unusedVariables false
set_option linter.unusedSimpArgs false
attribute [local go_sem] over_cell over_frozen
theorem vdeals_any (p : PrV) (P : PrM) (v : FnV) (f : FnM) (x a b : Int) (W0 w : World) (h : ReadP W0 p P) (hb : Below W0.heap.size W0 w) (hs : SmallP P) (hf : DeepF W0 v f) (hsf : SmallF f) (ha : 0 ≤ a) (op : Int) (h0 : 0 ≤ op) (h37 : op < 37) (h8 : op ≠ 8) (h9 : op ≠ 9) (st : List Int) : Calls Try.prog 110 #[aggP p, aggF v, .agg #[.int .i64 op, .int .u64 x, .int .i64 a, .int .i64 b]] w (RetF W0.heap.size w (deal P f ⟨op, x, a, b⟩ st)) := by
  by_cases e0 : op = 0
  · subst e0; exact vdeals0 p P v f x a b W0 w h hb hs hf hsf ha
  by_cases e1 : op = 1
  · subst e1; exact vdeals1 p P v f x a b W0 w h hb hs hf hsf ha
  by_cases e2 : op = 2
  · subst e2; exact vdeals2 p P v f x a b W0 w h hb hs hf hsf ha
  by_cases e3 : op = 3
  · subst e3; exact vdeals3 p P v f x a b W0 w h hb hs hf hsf ha
  by_cases e4 : op = 4
  · subst e4; exact vdeals4 p P v f x a b W0 w h hb hs hf hsf ha
  by_cases e5 : op = 5
  · subst e5; exact vdeals5 p P v f x a b W0 w h hb hs hf hsf ha
  by_cases e6 : op = 6
  · subst e6; exact vdeals6 p P v f x a b W0 w h hb hs hf hsf ha
  by_cases e7 : op = 7
  · subst e7; exact vdeals7 p P v f x a b W0 w h hb hs hf hsf ha
  by_cases e10 : op = 10
  · subst e10; exact vdeals10 p P v f x a b W0 w h hb hs hf hsf ha
  by_cases e11 : op = 11
  · subst e11; exact vdeals11 p P v f x a b W0 w h hb hs hf hsf ha
  by_cases e12 : op = 12
  · subst e12; exact vdeals12 p P v f x a b W0 w h hb hs hf hsf ha
  by_cases e13 : op = 13
  · subst e13; exact vdeals13 p P v f x a b W0 w h hb hs hf hsf ha
  by_cases e14 : op = 14
  · subst e14; exact vdeals14 p P v f x a b W0 w h hb hs hf hsf ha
  by_cases e15 : op = 15
  · subst e15; exact vdeals15 p P v f x a b W0 w h hb hs hf hsf ha
  by_cases e16 : op = 16
  · subst e16; exact vdeals16 p P v f x a b W0 w h hb hs hf hsf ha
  by_cases e17 : op = 17
  · subst e17; exact vdeals17 p P v f x a b W0 w h hb hs hf hsf ha
  by_cases e18 : op = 18
  · subst e18; exact vdeals18 p P v f x a b W0 w h hb hs hf hsf ha
  by_cases e19 : op = 19
  · subst e19; exact vdeals19 p P v f x a b W0 w h hb hs hf hsf ha
  by_cases e20 : op = 20
  · subst e20; exact vdeals20 p P v f x a b W0 w h hb hs hf hsf ha
  by_cases e21 : op = 21
  · subst e21; exact vdeals21 p P v f x a b W0 w h hb hs hf hsf ha
  by_cases e22 : op = 22
  · subst e22; exact vdeals22 p P v f x a b W0 w h hb hs hf hsf ha
  by_cases e23 : op = 23
  · subst e23; exact vdeals23 p P v f x a b W0 w h hb hs hf hsf ha
  by_cases e24 : op = 24
  · subst e24; exact vdeals24 p P v f x a b W0 w h hb hs hf hsf ha
  by_cases e25 : op = 25
  · subst e25; exact vdeals25 p P v f x a b W0 w h hb hs hf hsf ha
  by_cases e26 : op = 26
  · subst e26; exact vdeals26 p P v f x a b W0 w h hb hs hf hsf ha
  by_cases e27 : op = 27
  · subst e27; exact vdeals27 p P v f x a b W0 w h hb hs hf hsf ha
  by_cases e28 : op = 28
  · subst e28; exact vdeals28 p P v f x a b W0 w h hb hs hf hsf ha
  by_cases e29 : op = 29
  · subst e29; exact vdeals29 p P v f x a b W0 w h hb hs hf hsf ha
  by_cases e30 : op = 30
  · subst e30; exact vdeals30 p P v f x a b W0 w h hb hs hf hsf ha
  by_cases e31 : op = 31
  · subst e31; exact vdeals31 p P v f x a b W0 w h hb hs hf hsf ha
  by_cases e32 : op = 32
  · subst e32; exact vdeals32 p P v f x a b W0 w h hb hs hf hsf ha
  by_cases e33 : op = 33
  · subst e33; exact vdeals33 p P v f x a b W0 w h hb hs hf hsf ha
  by_cases e34 : op = 34
  · subst e34; exact vdeals34 p P v f x a b W0 w h hb hs hf hsf ha
  by_cases e35 : op = 35
  · subst e35; exact vdeals35 p P v f x a b W0 w h hb hs hf hsf ha
  by_cases e36 : op = 36
  · subst e36; exact vdeals36 p P v f x a b W0 w h hb hs hf hsf ha
  exact absurd h0 (by omega)
end Go.Proofs.Ytdmidnmciaediaa
