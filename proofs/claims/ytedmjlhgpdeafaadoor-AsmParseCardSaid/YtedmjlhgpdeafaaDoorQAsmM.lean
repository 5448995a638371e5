/- Layer 34, plain: a program's text, and what a text's lines make of it. No program in sight. No conditions beside those stated. -/
import Derived.Test.YtedmjlhgpdeafaaDoorQAsmL
import Derived.Test.YtedmjlhgpdeafaaDoorQBytes
import Derived.Test.YtedmjlhgpdeafaaDoorQMayR25
import Derived.Test.YtedmjlhgpdeafaaDoorQBytM
namespace Go.Proofs.YtedmjlhgpdeafaaDoor
set_option linter.unusedVariables false
set_option linter.unusedSimpArgs false
def nameL (k : Nat) : List UInt8 := (nameS k).data.toList
def wideL (x : Int) : List UInt8 := [48, 120] ++ hexL 16 x.toNat
def numI (n : Int) : List UInt8 := numL n.toNat
def argsL (i : In4) : List UInt8 :=
  if kindOf i.op = 1 then [32] ++ wideL i.x else if kindOf i.op = 2 then [32] ++ numI i.a else if kindOf i.op = 3 then [32] ++ numI i.a ++ [32] ++ numI i.b else []
def lineL (i : In4) : List UInt8 := nameL i.op.toNat ++ argsL i
def codeL (c : List In4) : List UInt8 := c.flatMap fun i => lineL i ++ [10]
def headL (f : FnM) : List UInt8 := [102, 117, 110, 99, 32] ++ kindsL f.ps ++ [32] ++ kindsL f.ls ++ [32] ++ kindsL [f.r] ++ [10]
def funcL (f : FnM) : List UInt8 := headL f ++ codeL f.code
def topL (P : PrM) : List UInt8 := (if P.u = true then [117, 110, 99, 104, 101, 99, 107, 101, 100, 10] else []) ++ [103, 108, 111, 98, 97, 108, 115, 32] ++ kindsL P.gl ++ [10, 109, 117, 116, 101, 120, 101, 115, 32] ++ numI P.m ++ [10]
def printL (P : PrM) : List UInt8 := topL P ++ P.fs.flatMap funcL
/-! ### What a line makes of a program -/
def opGo (w : List UInt8) : Nat → Nat → Option Nat
  | _, 0 => none
  | k, f + 1 => if nameL k = w then some k else opGo w (k + 1) f
def opL (w : List UInt8) : Option Nat := opGo w 0 37
theorem opGo_bd (w : List UInt8) : ∀ (f k n : Nat), opGo w k f = some n → k ≤ n ∧ n < k + f ∧ nameL n = w
  | 0, k, n, h => by cases h
  | f + 1, k, n, h => by
    unfold opGo at h
    split at h
    · rename_i q
      injection h with h
      subst h
      exact ⟨Nat.le_refl _, by omega, q⟩
    · have := opGo_bd w f (k + 1) n h
      exact ⟨by omega, by omega, this.2.2⟩
theorem opL_bd {w : List UInt8} {n : Nat} (h : opL w = some n) : n < 37 ∧ nameL n = w := by
  have := opGo_bd w 37 0 n h
  exact ⟨by omega, this.2.2⟩
theorem opL_names : ∀ k : Fin 37, opL (nameL k.val) = some k.val := by decide +kernel
def instrL (a : List UInt8) (r : List (List UInt8)) : Option In4 :=
  match opL a with
  | none => none
  | some k =>
    match kindOf (k : Int), r with
    | 0, [] => some ⟨k, 0, 0, 0⟩
    | 1, [x] => (bitsL x).bind fun v => some ⟨k, (v : Int), 0, 0⟩
    | 2, [x] => (valL x).bind fun n => some ⟨k, 0, (n : Int), 0⟩
    | 3, [x, y] => (valL x).bind fun n => (valL y).bind fun m => some ⟨k, 0, (n : Int), (m : Int)⟩
    | _, _ => none
def sUnch : List UInt8 := [117, 110, 99, 104, 101, 99, 107, 101, 100]
def sGlob : List UInt8 := [103, 108, 111, 98, 97, 108, 115]
def sMut : List UInt8 := [109, 117, 116, 101, 120, 101, 115]
def sFunc : List UInt8 := [102, 117, 110, 99]
def addI (f : FnM) (i : In4) : FnM := { f with code := f.code ++ [i] }
def addLast : List FnM → In4 → List FnM
  | [], _ => []
  | [f], i => [addI f i]
  | f :: g :: r, i => f :: addLast (g :: r) i
def globL (P : PrM) (ws : List (List UInt8)) : Option (PrM × Nat) :=
  match ws with
  | [a, b] => if a = sGlob then (listL b).bind fun l => some ({ P with gl := l }, 2) else none
  | _ => none
def mutL (P : PrM) (ws : List (List UInt8)) : Option (PrM × Nat) :=
  match ws with
  | [a, b] => if a = sMut then (valL b).bind fun m => some ({ P with m := (m : Int) }, 3) else none
  | _ => none
def fnL (P : PrM) (r : List (List UInt8)) : Option (PrM × Nat) :=
  match r with
  | [x, y, z] => (listL x).bind fun a => (listL y).bind fun b => (listL z).bind fun c => (match c with | [k] => some ({ P with fs := P.fs ++ [⟨a, b, k, []⟩] }, 3) | _ => none)
  | _ => none
def codL (P : PrM) (ws : List (List UInt8)) : Option (PrM × Nat) :=
  match ws with
  | [] => none
  | a :: r => if a = sFunc then fnL P r else (instrL a r).bind fun i => if P.fs = [] then none else some ({ P with fs := addLast P.fs i }, 3)
/-- 0: globals, or unchecked, are next; 1: globals; 2: mutexes; 3: code. -/
def fitsL (P : PrM) (n : Nat) (ws : List (List UInt8)) : Option (PrM × Nat) :=
  if n = 0 ∧ ws = [sUnch] then some ({ P with u := true }, 1) else if n ≤ 1 then globL P ws else if n = 2 then mutL P ws else codL P ws
inductive PRes where
  | bad (k : Nat)
  | done (P : PrM)
def runL (P : PrM) (n : Nat) (k : Nat) : List (List UInt8) → PRes
  | [] => .done P
  | l :: r => if wordsL l = [] then runL P n (k + 1) r else
    match fitsL P n (wordsL l) with
    | none => .bad k
    | some q => runL q.1 q.2 (k + 1) r
def P0 : PrM := ⟨false, [], 0, []⟩
def parseL (s : List UInt8) : PRes :=
  match runL P0 0 1 (linesL s) with
  | .bad k => .bad k
  | .done P => if mayP P = true then .done P else .bad 0
/-! ### Lengths -/
theorem name_len : ∀ k, (nameL k).length ≤ 6 := fun k => by
  unfold nameL
  match k with
  | 0 | 1 | 2 | 3 | 4 | 5 | 6 | 7 | 8 | 9 | 10 | 11 | 12 | 13 | 14 | 15 | 16 | 17 | 18 | 19 | 20 | 21 | 22 | 23 | 24 | 25 | 26 | 27 | 28 | 29 | 30 | 31 | 32 | 33 | 34 | 35 | 36 => decide
  | n + 37 => simp [nameS]
theorem wide_len (x : Int) : (wideL x).length = 18 := by unfold wideL; simp [hexL_len]
theorem numI_len {n : Int} (h : n ≤ 65535) : (numI n).length ≤ 5 := numL_len 4 n.toNat (by omega)
theorem kindsL_len (l : List Int) : (kindsL l).length ≤ l.length + 1 := by
  unfold kindsL
  split <;> simp
theorem args_len {i : In4} (ha : i.a ≤ 65535) (hb : i.b ≤ 65535) : (argsL i).length ≤ 19 := by
  have h1 := numI_len ha
  have h2 := numI_len hb
  have h3 := wide_len i.x
  unfold argsL
  (repeat' split) <;> simp <;> omega
theorem line_len {i : In4} (ha : i.a ≤ 65535) (hb : i.b ≤ 65535) : (lineL i).length ≤ 25 := by
  have h1 := name_len i.op.toNat
  have h2 := args_len ha hb
  unfold lineL
  simp; omega
theorem head_len (f : FnM) (h1 : f.ps.length ≤ 10) (h2 : f.ls.length ≤ 10) : (headL f).length ≤ 40 := by
  have a := kindsL_len f.ps
  have b := kindsL_len f.ls
  have c := kindsL_len [f.r]
  unfold headL
  simp at c ⊢; omega
theorem top_len (P : PrM) (h1 : P.gl.length ≤ 10) (h2 : P.m ≤ 65535) : (topL P).length ≤ 60 := by
  have a := kindsL_len P.gl
  have b := numI_len h2
  unfold topL
  split <;> simp <;> omega
theorem may_bd {op x a b : Int} (h : mayB op x a b = true) : (0 ≤ op ∧ op < 37) ∧ (0 ≤ a ∧ a ≤ 65535) ∧ (0 ≤ b ∧ b ≤ 65535) := by
  have h4 : kindOf op ≠ 4 := fun q => by rw [may_four q] at h; cases h
  refine ⟨?_, ?_, ?_⟩
  · rcases kind_cases op with q | ⟨k, hk, rfl⟩
    · exact absurd (show kindOf op = 4 from by unfold kindOf; rw [if_pos q]) h4
    · omega
  · refine ⟨?_, ?_⟩
    · by_cases q : a < 0
      · rw [may_outA (Or.inl q)] at h; cases h
      · omega
    · by_cases q : 65535 < a
      · rw [may_outA (Or.inr q)] at h; cases h
      · omega
  · refine ⟨?_, ?_⟩
    · by_cases q : b < 0
      · rw [may_outB (Or.inl q)] at h; cases h
      · omega
    · by_cases q : 65535 < b
      · rw [may_outB (Or.inr q)] at h; cases h
      · omega
end Go.Proofs.YtedmjlhgpdeafaaDoor
