/- Layer 34, plain: what is printed is parsed as it was, whatever blanks, remarks and empty lines stand there. No program in sight. No conditions beside those stated. Chapter 34's example, and the shortened program. Conditions: where the library's MaxLen stands it holds a number. Chapter 34's example, walked. Conditions: where the library's MaxLen stands it holds a number. Chapter 34's frame: the wrap that keeps the world's shape beside the listed variables; the number in the library's MaxLen. No conditions. AsmBlank, walked: whatever the program and the choices, the answer is true. Conditions: the program reads as lists, its instructions' numbers are of their kinds; where the library's MaxLen stands it holds a number. -/
import Derived.Test.YtedmjlhgpdeafaaDoorAsmW
import Derived.Test.YtedmjlhgpdeafaaDoorAsmBC
import Derived.Test.YtedmjlhgpdeafaaDoorCutM
import Derived.Test.YtedmjlhgpdeafaaDoorRows
import Derived.Test.YtedmjlhgpdeafaaDoorAsmV
import Derived.HandedShaped
import Derived.LaidLaws
import Derived.LaidMore
import Derived.Lay
import Derived.Handed
import Derived.Shelf.Vars
import Derived.Test.YtedmjlhgpdeafaaDoorOursB25
import Derived.Test.YtedmjlhgpdeafaaDoorSameN
namespace Go.Proofs.YtedmjlhgpdeafaaDoor
set_option linter.unusedVariables false
set_option linter.unusedSimpArgs false
open Go.RowKit
attribute [local go_sem] over_cell over_frozen
/-! ### Lines without words do not count -/
def filtW (LS : List (List UInt8)) : List (List (List UInt8)) := (LS.map wordsL).filter fun ws => !ws.isEmpty
def runW (P : PrM) (n : Nat) : List (List (List UInt8)) → Option PrM
  | [] => some P
  | ws :: r => match fitsL P n ws with
    | none => none
    | some q => runW q.1 q.2 r
theorem run_done : ∀ (LS : List (List UInt8)) (P Q : PrM) (n k : Nat), runW P n (filtW LS) = some Q → runL P n k LS = .done Q
  | [], P, Q, n, k, h => by
    have h : some P = some Q := h
    injection h with h
    subst h; rfl
  | l :: r, P, Q, n, k, h => by
    unfold runL
    by_cases hw : wordsL l = []
    · rw [if_pos hw]
      refine run_done r P Q n (k + 1) ?_
      have e : filtW (l :: r) = filtW r := by unfold filtW; rw [List.map_cons, hw]; rfl
      rw [← e]; exact h
    · rw [if_neg hw]
      have e : filtW (l :: r) = wordsL l :: filtW r := by
        unfold filtW
        rw [List.map_cons, List.filter_cons_of_pos]
        cases hq : wordsL l with
        | nil => exact absurd hq hw
        | cons a b => rfl
      rw [e] at h
      unfold runW at h
      cases hf : fitsL P n (wordsL l) with
      | none => rw [hf] at h; cases h
      | some q =>
        rw [hf] at h
        exact run_done r q.1 Q q.2 (k + 1) h
theorem filt_app (a b : List (List UInt8)) : filtW (a ++ b) = filtW a ++ filtW b := by unfold filtW; rw [List.map_append, List.filter_append]
theorem filt_no {l : List UInt8} (h : wordsL l = []) : filtW [l] = [] := by unfold filtW; rw [List.map_cons, h]; rfl
/-! ### Words -/
def Wd (l : List UInt8) : Prop := l ≠ [] ∧ ∀ c ∈ l, c ≠ 59 ∧ isB c = false ∧ c ≠ 10
theorem words_go : ∀ (a w r : List UInt8), (∀ c ∈ a, c ≠ 59 ∧ isB c = false ∧ c ≠ 10) → wordsGo w (a ++ r) = wordsGo (w ++ a) r
  | [], w, r, _ => by rw [List.nil_append, List.append_nil]
  | c :: a, w, r, h => by
    have hc := h c (by simp)
    show wordsGo w (c :: (a ++ r)) = _
    rw [wordsGo, if_neg hc.1, hc.2.1, if_neg (by decide), words_go a (w ++ [c]) r (fun x hx => h x (by simp [hx])), List.append_assoc, List.singleton_append]
theorem words_last {a : List UInt8} (h : Wd a) : wordsGo [] a = [a] := by
  have q := words_go a [] [] h.2
  rw [List.append_nil] at q
  rw [q]
  show (if [] ++ a = [] then [] else [[] ++ a]) = [a]
  rw [List.nil_append, if_neg h.1]
theorem words_more {a : List UInt8} (h : Wd a) (r : List UInt8) : wordsGo [] (a ++ [32] ++ r) = a :: wordsGo [] r := by
  rw [List.append_assoc, words_go a [] _ h.2]
  show (if (32 : UInt8) = 59 then _ else if isB 32 = true then (if [] ++ a = [] then _ else _) else _) = _
  rw [if_neg (by decide), if_pos (by decide), List.nil_append, if_neg h.1]; rfl
theorem wd_kinds (l : List Int) : Wd (kindsL l) := by
  unfold kindsL
  split
  · exact ⟨by simp, by decide⟩
  · rename_i q
    refine ⟨by simpa using q, fun c hc => ?_⟩
    obtain ⟨k, _, rfl⟩ := List.mem_map.1 hc
    unfold kindD
    repeat' split
    all_goals decide
theorem wd_dig : ∀ k : Fin 10, dig k.val ≠ 59 ∧ isB (dig k.val) = false ∧ dig k.val ≠ 10 := by decide
theorem wd_num : ∀ n : Nat, Wd (numL n) := fun n => by
  refine ⟨numL_ne n, ?_⟩
  induction n using Nat.strongRecOn with
  | _ n ih =>
    by_cases h : n < 10
    · rw [numL_lt h]
      intro c hc
      simp only [List.mem_singleton] at hc
      rw [hc]; exact wd_dig ⟨n, h⟩
    · rw [numL_ge h]
      intro c hc
      rcases List.mem_append.1 hc with q | q
      · exact ih (n / 10) (by omega) c q
      · simp only [List.mem_singleton] at q
        rw [q]; exact wd_dig ⟨n % 10, Nat.mod_lt _ (by omega)⟩
theorem wd_hexD : ∀ k : Fin 16, hexD k.val ≠ 59 ∧ isB (hexD k.val) = false ∧ hexD k.val ≠ 10 := by decide
theorem wd_hex : ∀ (k v : Nat), ∀ c ∈ hexL k v, c ≠ 59 ∧ isB c = false ∧ c ≠ 10
  | 0, v, c, h => by cases h
  | k + 1, v, c, h => by
    unfold hexL at h
    rcases List.mem_append.1 h with q | q
    · exact wd_hex k _ c q
    · simp only [List.mem_singleton] at q
      rw [q]; exact wd_hexD ⟨v % 16, Nat.mod_lt _ (by omega)⟩
theorem wd_wide (x : Int) : Wd (wideL x) := by
  unfold wideL
  refine ⟨by simp, fun c hc => ?_⟩
  rcases List.mem_append.1 hc with q | q
  · exact (by decide : ∀ c ∈ ([48, 120] : List UInt8), c ≠ 59 ∧ isB c = false ∧ c ≠ 10) c q
  · exact wd_hex _ _ c q
theorem wd_names : ∀ k : Fin 37, nameL k.val ≠ [] ∧ (∀ c ∈ nameL k.val, c ≠ 59 ∧ isB c = false ∧ c ≠ 10) ∧ nameL k.val ≠ sFunc := by decide +kernel
/-! ### The lines of what is printed -/
def fnLine (f : FnM) : List UInt8 := sFunc ++ [32] ++ (kindsL f.ps ++ [32] ++ (kindsL f.ls ++ [32] ++ kindsL [f.r]))
def fnLines (f : FnM) : List (List UInt8) := fnLine f :: f.code.map lineL
def topLines (P : PrM) : List (List UInt8) := (if P.u = true then [sUnch] else []) ++ [sGlob ++ [32] ++ kindsL P.gl, sMut ++ [32] ++ numI P.m]
def linesP (P : PrM) : List (List UInt8) := topLines P ++ P.fs.flatMap fnLines
def flat (LS : List (List UInt8)) : List UInt8 := LS.flatMap fun x => x ++ [10]
theorem flat_app (a b : List (List UInt8)) : flat (a ++ b) = flat a ++ flat b := by unfold flat; rw [List.flatMap_append]
theorem flat_code : ∀ c : List In4, flat (c.map lineL) = codeL c
  | [] => rfl
  | i :: c => by
    show (lineL i ++ [10]) ++ flat (c.map lineL) = (lineL i ++ [10]) ++ codeL c
    rw [flat_code c]
theorem flat_fn (f : FnM) : flat (fnLines f) = funcL f := by
  show (fnLine f ++ [10]) ++ flat (f.code.map lineL) = headL f ++ codeL f.code
  rw [flat_code]
  unfold fnLine headL sFunc
  simp
theorem flat_fns : ∀ fs : List FnM, flat (fs.flatMap fnLines) = fs.flatMap funcL
  | [] => rfl
  | f :: r => by rw [List.flatMap_cons, flat_app, flat_fn, flat_fns r, List.flatMap_cons]
theorem flat_top (P : PrM) : flat (topLines P) = topL P := by
  unfold topLines topL flat sUnch sGlob sMut
  cases P.u <;> simp
theorem print_flat (P : PrM) : printL P = flat (linesP P) := by
  unfold linesP printL
  rw [flat_app, flat_top, flat_fns]
theorem lines_go : ∀ (x w r : List UInt8), (∀ c ∈ x, c ≠ 10) → linesGo w (x ++ 10 :: r) = (w ++ x) :: linesGo [] r
  | [], w, r, _ => by rw [List.append_nil]; rfl
  | c :: x, w, r, h => by
    show linesGo w (c :: (x ++ 10 :: r)) = _
    rw [linesGo, if_neg (h c (by simp)), lines_go x (w ++ [c]) r (fun y hy => h y (by simp [hy])), List.append_assoc, List.singleton_append]
theorem lines_flat : ∀ (LS : List (List UInt8)), (∀ x ∈ LS, ∀ c ∈ x, c ≠ 10) → linesL (flat LS) = LS ++ [[]]
  | [], _ => rfl
  | x :: r, h => by
    have e : flat (x :: r) = x ++ 10 :: flat r := by show (x ++ [10]) ++ flat r = _; rw [List.append_assoc]; rfl
    rw [e]
    unfold linesL
    rw [lines_go x [] _ (h x (by simp)), List.nil_append]
    have q := lines_flat r (fun y hy => h y (by simp [hy]))
    unfold linesL at q
    rw [q]; rfl
/-! ### What each line is -/
def argsW (i : In4) : List (List UInt8) := if kindOf i.op = 1 then [wideL i.x] else if kindOf i.op = 2 then [numI i.a] else if kindOf i.op = 3 then [numI i.a, numI i.b] else []
theorem line_words {i : In4} (h : 0 ≤ i.op ∧ i.op < 37) : wordsL (lineL i) = nameL i.op.toNat :: argsW i := by
  have hn : Wd (nameL i.op.toNat) := by
    have q := wd_names ⟨i.op.toNat, by omega⟩
    exact ⟨q.1, q.2.1⟩
  unfold lineL argsL argsW wordsL numI
  (repeat' split)
  · rw [← List.append_assoc, words_more hn, words_last (wd_wide _)]
  · rw [← List.append_assoc, words_more hn, words_last (wd_num _)]
  · rw [show ∀ a b c d e : List UInt8, a ++ (b ++ c ++ d ++ e) = a ++ b ++ (c ++ d ++ e) from fun a b c d e => by simp, words_more hn, words_more (wd_num _), words_last (wd_num _)]
  · rw [List.append_nil, words_last hn]
theorem fnLine_words (f : FnM) : wordsL (fnLine f) = [sFunc, kindsL f.ps, kindsL f.ls, kindsL [f.r]] := by
  unfold fnLine wordsL
  rw [words_more (⟨by decide, by decide⟩ : Wd sFunc), words_more (wd_kinds _), words_more (wd_kinds _), words_last (wd_kinds _)]
theorem instr_back {i : In4} (hm : mayB i.op i.x i.a i.b = true) (hg : GoodIn i) : instrL (nameL i.op.toNat) (argsW i) = some i := by
  obtain ⟨⟨h1, h2⟩, ⟨h3, h4⟩, ⟨h5, h6⟩⟩ := may_bd hm
  have ho : opL (nameL i.op.toNat) = some i.op.toNat := opL_names ⟨i.op.toNat, by omega⟩
  have hk : ((i.op.toNat : Nat) : Int) = i.op := by omega
  have hm2 := hm
  unfold mayB shOk shX shN smallB at hm2
  obtain ⟨op, x, a, b⟩ := i
  obtain ⟨g1, g2⟩ := hg
  simp only at *
  unfold instrL argsW
  rw [ho]
  simp only [hk]
  have hle := kind_le op
  have hx : ((x.toNat : Nat) : Int) = x := by omega
  have ha : ((a.toNat : Nat) : Int) = a := by omega
  have hb : ((b.toNat : Nat) : Int) = b := by omega
  rcases (by omega : kindOf op = 0 ∨ kindOf op = 1 ∨ kindOf op = 2 ∨ kindOf op = 3 ∨ kindOf op = 4) with q | q | q | q | q
  · rw [q] at hm2 ⊢
    simp at hm2
    obtain ⟨⟨rfl, rfl⟩, rfl⟩ := hm2
    rfl
  · rw [q] at hm2 ⊢
    simp at hm2
    obtain ⟨rfl, rfl⟩ := hm2
    show (bitsL (wideL x)).bind _ = _
    unfold wideL
    rw [bitsL_back (by omega)]
    show some (⟨op, ((x.toNat : Nat) : Int), 0, 0⟩ : In4) = _
    rw [hx]
  · rw [q] at hm2 ⊢
    simp at hm2
    have e1 : x = 0 := hm2.1.1
    have e2 : b = 0 := hm2.2
    subst e1 e2
    show (valL (numL a.toNat)).bind _ = _
    rw [valL_back (by omega)]
    show some (⟨op, 0, ((a.toNat : Nat) : Int), 0⟩ : In4) = _
    rw [ha]
  · rw [q] at hm2 ⊢
    simp at hm2
    have e1 : x = 0 := hm2.1.1
    subst e1
    show (valL (numL a.toNat)).bind (fun n => (valL (numL b.toNat)).bind fun m => some (⟨op, 0, (n : Int), (m : Int)⟩ : In4)) = _
    rw [valL_back (by omega), valL_back (by omega)]
    show some (⟨op, 0, ((a.toNat : Nat) : Int), ((b.toNat : Nat) : Int)⟩ : In4) = _
    rw [ha, hb]
  · rw [q] at hm2; simp at hm2
theorem instr_fits {P : PrM} {A : List FnM} {m : FnM} {i : In4} (hP : P.fs = A ++ [m]) (hm : mayB i.op i.x i.a i.b = true) (hg : GoodIn i) : fitsL P 3 (nameL i.op.toNat :: argsW i) = some ({ P with fs := A ++ [addI m i] }, 3) := by
  obtain ⟨⟨h1, h2⟩, _, _⟩ := may_bd hm
  have hn := wd_names ⟨i.op.toNat, by omega⟩
  unfold fitsL
  rw [if_neg (by omega), if_neg (by omega), if_neg (by omega)]
  unfold codL
  simp only [hn.2.2, if_false]
  rw [instr_back hm hg]
  show (if P.fs = [] then none else some (({ P with fs := addLast P.fs i } : PrM), 3)) = _
  rw [if_neg (by rw [hP]; simp), hP, addLast_snoc]
theorem fn_fits {P : PrM} {f : FnM} (h1 : ∀ k ∈ f.ps, 0 ≤ k ∧ k ≤ 3) (h2 : ∀ k ∈ f.ls, 0 ≤ k ∧ k ≤ 3) (h3 : 0 ≤ f.r ∧ f.r ≤ 3) : fitsL P 3 [sFunc, kindsL f.ps, kindsL f.ls, kindsL [f.r]] = some ({ P with fs := P.fs ++ [⟨f.ps, f.ls, f.r, []⟩] }, 3) := by
  unfold fitsL
  rw [if_neg (by omega), if_neg (by omega), if_neg (by omega)]
  unfold codL
  simp only [if_true]
  unfold fnL
  simp only [listL_back h1, listL_back h2]
  rw [listL_back (l := [f.r]) (by intro k hk; simp only [List.mem_singleton] at hk; rw [hk]; exact h3)]
  rfl
theorem code_run : ∀ (c : List In4) (P : PrM) (A : List FnM) (m : FnM) (r : List (List (List UInt8))), P.fs = A ++ [m] → (∀ i ∈ c, mayB i.op i.x i.a i.b = true ∧ GoodIn i) → runW P 3 (c.map (fun i => nameL i.op.toNat :: argsW i) ++ r) = runW { P with fs := A ++ [{ m with code := m.code ++ c }] } 3 r
  | [], P, A, m, r, hP, _ => by
    obtain ⟨u, gl, mm, fs⟩ := P
    simp only at hP
    subst hP
    simp only [List.map_nil, List.nil_append, List.append_nil]
  | i :: c, P, A, m, r, hP, h => by
    have hi := h i (by simp)
    show runW P 3 ((nameL i.op.toNat :: argsW i) :: (c.map (fun i => nameL i.op.toNat :: argsW i) ++ r)) = _
    rw [runW, instr_fits hP hi.1 hi.2]
    have q := code_run c { P with fs := A ++ [addI m i] } A (addI m i) r rfl (fun j hj => h j (by simp [hj]))
    refine q.trans ?_
    unfold addI
    simp only [List.append_assoc, List.singleton_append]
theorem fns_run : ∀ (fs : List FnM) (P : PrM) (r : List (List (List UInt8))), (∀ f ∈ fs, mayF f = true ∧ ∀ i ∈ f.code, GoodIn i) → runW P 3 (fs.flatMap (fun f => [sFunc, kindsL f.ps, kindsL f.ls, kindsL [f.r]] :: f.code.map (fun i => nameL i.op.toNat :: argsW i)) ++ r) = runW { P with fs := P.fs ++ fs } 3 r
  | [], P, r, _ => by simp only [List.flatMap_nil, List.nil_append, List.append_nil]
  | f :: fs, P, r, h => by
    obtain ⟨hm, hg⟩ := h f (by simp)
    obtain ⟨⟨p1, _⟩, ⟨p2, _⟩, p3, _, p4⟩ := mayF_parts hm
    rw [List.flatMap_cons, List.append_assoc, List.cons_append, runW, fn_fits p1 p2 p3]
    have q := code_run f.code { P with fs := P.fs ++ [⟨f.ps, f.ls, f.r, []⟩] } P.fs ⟨f.ps, f.ls, f.r, []⟩ (fs.flatMap (fun f => [sFunc, kindsL f.ps, kindsL f.ls, kindsL [f.r]] :: f.code.map (fun i => nameL i.op.toNat :: argsW i)) ++ r) rfl (fun i hi => ⟨p4 i hi, hg i hi⟩)
    refine q.trans ?_
    have q2 := fns_run fs { P with fs := P.fs ++ [f] } r (fun g hgm => h g (by simp [hgm]))
    simp only [List.nil_append, List.append_assoc, List.singleton_append] at q2 ⊢
    exact q2
theorem filt_map {LS : List (List UInt8)} (h : ∀ x ∈ LS, wordsL x ≠ []) : filtW LS = LS.map wordsL := by
  unfold filtW
  rw [List.filter_eq_self]
  intro a ha
  obtain ⟨x, hx, rfl⟩ := List.mem_map.1 ha
  cases hq : wordsL x with
  | nil => exact absurd hq (h x hx)
  | cons b c => rfl
theorem top_words (P : PrM) : (topLines P).map wordsL = (if P.u = true then [[sUnch]] else []) ++ [[sGlob, kindsL P.gl], [sMut, numI P.m]] := by
  unfold topLines
  have e1 : wordsL sUnch = [sUnch] := by decide
  have e2 : wordsL (sGlob ++ [32] ++ kindsL P.gl) = [sGlob, kindsL P.gl] := by
    unfold wordsL
    rw [words_more (⟨by decide, by decide⟩ : Wd sGlob), words_last (wd_kinds _)]
  have e3 : wordsL (sMut ++ [32] ++ numI P.m) = [sMut, numI P.m] := by
    unfold wordsL numI
    rw [words_more (⟨by decide, by decide⟩ : Wd sMut), words_last (wd_num _)]
  rw [List.map_append, List.map_cons, List.map_cons, e2, e3]
  cases P.u
  · rfl
  · show [wordsL sUnch] ++ _ = _; rw [e1]; rfl
theorem fns_words : ∀ (fs : List FnM), (∀ f ∈ fs, mayF f = true) → (fs.flatMap fnLines).map wordsL = fs.flatMap (fun f => [sFunc, kindsL f.ps, kindsL f.ls, kindsL [f.r]] :: f.code.map (fun i => nameL i.op.toNat :: argsW i))
  | [], _ => rfl
  | f :: r, h => by
    obtain ⟨_, _, _, _, p4⟩ := mayF_parts (h f (by simp))
    rw [List.flatMap_cons, List.flatMap_cons, List.map_append, fns_words r (fun g hg => h g (by simp [hg]))]
    congr 1
    show wordsL (fnLine f) :: (f.code.map lineL).map wordsL = _
    rw [fnLine_words, List.map_map]
    congr 1
    exact List.map_congr_left (fun i hi => line_words (may_bd (p4 i hi)).1)
theorem lineP_no10 {P : PrM} (hm : mayP P = true) : (∀ x ∈ linesP P, ∀ c ∈ x, c ≠ 10) := by
  obtain ⟨_, _, _, hf⟩ := mayP_parts hm
  have w10 : ∀ {l : List UInt8}, Wd l → ∀ c ∈ l, c ≠ 10 := fun h c hc => (h.2 c hc).2.2
  intro x hx c hc
  unfold linesP at hx
  rcases List.mem_append.1 hx with q | q
  · unfold topLines at q
    rcases List.mem_append.1 q with q | q
    · split at q
      · simp only [List.mem_singleton] at q
        subst q
        exact (by decide : ∀ c ∈ sUnch, c ≠ 10) c hc
      · cases q
    · simp only [List.mem_cons, List.not_mem_nil, or_false] at q
      rcases q with rfl | rfl
      · rcases List.mem_append.1 hc with z | z
        · exact (by decide : ∀ c ∈ sGlob ++ [32], c ≠ 10) c z
        · exact w10 (wd_kinds _) c z
      · rcases List.mem_append.1 hc with z | z
        · exact (by decide : ∀ c ∈ sMut ++ [32], c ≠ 10) c z
        · exact w10 (wd_num _) c z
  · obtain ⟨f, hfm, hxf⟩ := List.mem_flatMap.1 q
    obtain ⟨_, _, _, _, p4⟩ := mayF_parts (hf f hfm)
    rcases List.mem_cons.1 hxf with rfl | hxc
    · unfold fnLine at hc
      simp only [List.mem_append] at hc
      rcases hc with (z | z) | (z | z) | (z | z) | z
      · exact (by decide : ∀ c ∈ sFunc, c ≠ 10) c z
      · exact (by decide : ∀ c ∈ ([32] : List UInt8), c ≠ 10) c z
      · exact w10 (wd_kinds _) c z
      · exact (by decide : ∀ c ∈ ([32] : List UInt8), c ≠ 10) c z
      · exact w10 (wd_kinds _) c z
      · exact (by decide : ∀ c ∈ ([32] : List UInt8), c ≠ 10) c z
      · exact w10 (wd_kinds _) c z
    · obtain ⟨i, hi, rfl⟩ := List.mem_map.1 hxc
      have hb := (may_bd (p4 i hi)).1
      have hn := wd_names ⟨i.op.toNat, by omega⟩
      unfold lineL at hc
      rcases List.mem_append.1 hc with z | z
      · exact (hn.2.1 c z).2.2
      · unfold argsL numI at z
        (repeat' split at z)
        · rcases List.mem_append.1 z with y | y
          · exact (by decide : ∀ c ∈ ([32] : List UInt8), c ≠ 10) c y
          · exact w10 (wd_wide _) c y
        · rcases List.mem_append.1 z with y | y
          · exact (by decide : ∀ c ∈ ([32] : List UInt8), c ≠ 10) c y
          · exact w10 (wd_num _) c y
        · simp only [List.mem_append] at z
          rcases z with ((y | y) | y) | y
          · exact (by decide : ∀ c ∈ ([32] : List UInt8), c ≠ 10) c y
          · exact w10 (wd_num _) c y
          · exact (by decide : ∀ c ∈ ([32] : List UInt8), c ≠ 10) c y
          · exact w10 (wd_num _) c y
        · cases z
/-- What has the lines of what is printed makes the program again. -/
theorem print_run {P : PrM} (hm : mayP P = true) (hg : GoodP P) : runW P0 0 (filtW (linesL (printL P))) = some P := by
  obtain ⟨⟨f1, f2⟩, ⟨m1, m2⟩, ⟨g1, g2⟩, hf⟩ := mayP_parts hm
  rw [print_flat, lines_flat _ (lineP_no10 hm), filt_app, filt_no (show wordsL [] = [] from rfl), List.append_nil]
  have hw : (linesP P).map wordsL = ((if P.u = true then [[sUnch]] else []) ++ [[sGlob, kindsL P.gl], [sMut, numI P.m]]) ++ P.fs.flatMap (fun f => [sFunc, kindsL f.ps, kindsL f.ls, kindsL [f.r]] :: f.code.map (fun i => nameL i.op.toNat :: argsW i)) := by
    unfold linesP
    rw [List.map_append, top_words, fns_words _ hf]
  have hne : ∀ x ∈ linesP P, wordsL x ≠ [] := by
    intro x hx
    have : wordsL x ∈ (linesP P).map wordsL := List.mem_map_of_mem hx
    rw [hw] at this
    intro q
    rw [q] at this
    simp at this
  rw [filt_map hne, hw]
  have hR := fns_run P.fs { P with fs := [] } [] (fun f hfm => ⟨hf f hfm, hg f hfm⟩)
  rw [List.append_nil, List.nil_append] at hR
  have hv : valL (numI P.m) = some P.m.toNat := valL_back (by omega)
  have e2 : ∀ Q : PrM, fitsL Q 2 [sMut, numI P.m] = some ({ Q with m := P.m }, 3) := fun Q => by
    unfold fitsL
    rw [if_neg (by omega), if_neg (by omega), if_pos rfl]
    unfold mutL
    simp only [if_true]
    rw [hv]
    show some (({ Q with m := ((P.m.toNat : Nat) : Int) } : PrM), 3) = _
    rw [show ((P.m.toNat : Nat) : Int) = P.m by omega]
  have e1 : ∀ (Q : PrM) (n : Nat), n ≤ 1 → fitsL Q n [sGlob, kindsL P.gl] = some ({ Q with gl := P.gl }, 2) := fun Q n hn => by
    unfold fitsL
    rw [if_neg (fun q => absurd q.2 (by simp)), if_pos hn]
    unfold globL
    simp only [if_true]
    rw [listL_back g1]; rfl
  have e0 : fitsL P0 0 [sUnch] = some ({ P0 with u := true }, 1) := by
    unfold fitsL
    rw [if_pos ⟨rfl, rfl⟩]
  obtain ⟨u, gl, m, fs⟩ := P
  simp only at *
  cases u
  · show runW P0 0 ([sGlob, kindsL gl] :: [sMut, numI m] :: _) = _
    rw [runW, e1 _ 0 (by omega)]
    show runW _ 2 ([sMut, numI m] :: _) = _
    rw [runW, e2]
    exact hR.trans rfl
  · show runW P0 0 ([sUnch] :: [sGlob, kindsL gl] :: [sMut, numI m] :: _) = _
    rw [runW, e0]
    show runW _ 1 ([sGlob, kindsL gl] :: [sMut, numI m] :: _) = _
    rw [runW, e1 _ 1 (by omega)]
    show runW _ 2 ([sMut, numI m] :: _) = _
    rw [runW, e2]
    exact hR.trans rfl
theorem parse_of {P : PrM} {s : List UInt8} (hm : mayP P = true) (h : runW P0 0 (filtW (linesL s)) = some P) : parseL s = .done P := by
  unfold parseL
  rw [run_done _ _ _ 0 1 h]
  simp only [hm, if_true]
theorem parse_print {P : PrM} (hm : mayP P = true) (hg : GoodP P) : parseL (printL P) = .done P := parse_of hm (print_run hm hg)
/-! ### Blanks, remarks and lines without words -/
def sfxL (k : Nat) : List UInt8 := match k with | 0 => [] | 1 => [32, 59, 32, 120] | 2 => [9] | _ => [59]
def extL (k : Nat) : List UInt8 := match k with | 0 => [] | 1 => [10] | 2 => [32, 10] | _ => [59, 32, 121, 10]
def preK (k : Nat) : List UInt8 := match k with | 0 => [] | 1 => [32] | 2 => [9] | _ => []
/-- The text with blanks, so far. -/
inductive Bln : List UInt8 → List UInt8 → Prop
  | nil : Bln [] []
  | ch {a b : List UInt8} (c : UInt8) (h : Bln a b) (hc : c ≠ 10) : Bln (a ++ [c]) (b ++ [c])
  | nl {a b : List UInt8} (k : Nat) (h : Bln a b) (hk : k < 4) : Bln (a ++ [10]) (b ++ sfxL k ++ [10] ++ extL k ++ preK k)
theorem words_sfx (k : Nat) : ∀ (x w : List UInt8), wordsGo w (x ++ sfxL k) = wordsGo w x
  | [], w => by
    unfold sfxL
    split
    · rfl
    · show wordsGo w [32, 59, 32, 120] = if w = [] then [] else [w]
      by_cases h : w = []
      · subst h; decide
      · rw [if_neg h]
        show (if (32 : UInt8) = 59 then _ else if isB 32 = true then (if w = [] then _ else w :: wordsGo [] [59, 32, 120]) else _) = _
        rw [if_neg (by decide), if_pos (by decide), if_neg h, show wordsGo [] [59, 32, 120] = [] from by decide]
    · show wordsGo w [9] = if w = [] then [] else [w]
      by_cases h : w = []
      · subst h; decide
      · rw [if_neg h]
        show (if (9 : UInt8) = 59 then _ else if isB 9 = true then (if w = [] then _ else w :: wordsGo [] []) else _) = _
        rw [if_neg (by decide), if_pos (by decide), if_neg h]; rfl
    · show (if (59 : UInt8) = 59 then (if w = [] then [] else [w]) else _) = if w = [] then [] else [w]
      rw [if_pos rfl]
  | c :: x, w => by
    show wordsGo w (c :: (x ++ sfxL k)) = wordsGo w (c :: x)
    rw [wordsGo, wordsGo, words_sfx k x [], words_sfx k x (w ++ [c])]
theorem words_pre : ∀ (p x : List UInt8), (∀ c ∈ p, isB c = true) → wordsL (p ++ x) = wordsL x
  | [], x, _ => rfl
  | c :: p, x, h => by
    have hc := h c (by simp)
    have h59 : c ≠ 59 := fun q => by subst q; exact absurd hc (by decide)
    show (if c = 59 then _ else if isB c = true then (if ([] : List UInt8) = [] then wordsGo [] (p ++ x) else _) else _) = _
    rw [if_neg h59, if_pos hc, if_pos rfl]
    exact words_pre p x (fun y hy => h y (by simp [hy]))
theorem bln_lines {t o : List UInt8} (h : Bln t o) : ∃ (La Lb : List (List UInt8)) (x p : List UInt8), (∀ b, linesL (t ++ b) = La ++ linesGo x b) ∧ (∀ b, linesL (o ++ b) = Lb ++ linesGo (p ++ x) b) ∧ filtW La = filtW Lb ∧ ∀ c ∈ p, isB c = true := by
  induction h with
  | nil => exact ⟨[], [], [], [], fun b => rfl, fun b => rfl, rfl, fun c hc => by cases hc⟩
  | ch c h hc ih =>
    obtain ⟨La, Lb, x, p, h1, h2, h3, h4⟩ := ih
    refine ⟨La, Lb, x ++ [c], p, fun b => ?_, fun b => ?_, h3, h4⟩
    · rw [List.append_assoc, h1]
      show La ++ linesGo x (c :: b) = _
      rw [linesGo, if_neg hc]
    · rw [List.append_assoc, h2]
      show Lb ++ linesGo (p ++ x) (c :: b) = _
      rw [linesGo, if_neg hc, List.append_assoc]
  | nl k h hk ih =>
    obtain ⟨La, Lb, x, p, h1, h2, h3, h4⟩ := ih
    have hs : ∀ (w : List UInt8) (b : List UInt8), linesGo w (sfxL k ++ 10 :: b) = (w ++ sfxL k) :: linesGo [] b := fun w b => lines_go (sfxL k) w b (by
      unfold sfxL; split <;> decide)
    have hE : ∃ E : List (List UInt8), filtW E = [] ∧ ∀ b, linesGo [] (extL k ++ b) = E ++ linesGo [] b := by
      unfold extL
      split
      · exact ⟨[], rfl, fun b => rfl⟩
      · exact ⟨[[]], by decide, fun b => rfl⟩
      · exact ⟨[[32]], by decide, fun b => rfl⟩
      · exact ⟨[[59, 32, 121]], by decide, fun b => rfl⟩
    obtain ⟨E, hE1, hE2⟩ := hE
    have hp : ∀ c ∈ preK k, isB c = true := by unfold preK; split <;> decide
    have hpl : ∀ b, linesGo [] (preK k ++ b) = linesGo (preK k) b := by
      intro b
      unfold preK
      split <;> rfl
    refine ⟨La ++ [x], Lb ++ [p ++ x ++ sfxL k] ++ E, [], preK k, fun b => ?_, fun b => ?_, ?_, hp⟩
    · rw [List.append_assoc, h1]
      show La ++ linesGo x (10 :: b) = _
      rw [linesGo, if_pos rfl, List.append_assoc]; rfl
    · have e : ∀ (b0 : List UInt8), b0 ++ sfxL k ++ [10] ++ extL k ++ preK k ++ b = b0 ++ (sfxL k ++ 10 :: (extL k ++ (preK k ++ b))) := fun b0 => by simp
      rw [e, h2, hs, hE2, hpl, List.append_nil]
      simp
    · rw [filt_app, filt_app, filt_app, hE1, List.append_nil, h3]
      congr 1
      unfold filtW
      rw [List.map_cons, List.map_cons]
      have e : wordsL (p ++ x ++ sfxL k) = wordsL x := by
        have q := words_sfx k (p ++ x) []
        exact q.trans (words_pre p x h4)
      rw [e]
theorem bln_filt {t o : List UInt8} (h : Bln t o) : filtW (linesL o) = filtW (linesL t) := by
  obtain ⟨La, Lb, x, p, h1, h2, h3, h4⟩ := bln_lines h
  have a := h1 []
  have b := h2 []
  rw [List.append_nil] at a b
  rw [a, b, filt_app, filt_app, h3]
  congr 1
  show filtW [p ++ x] = filtW [x]
  unfold filtW
  rw [List.map_cons, List.map_cons, words_pre p x h4]
theorem bln_parse {P : PrM} {o : List UInt8} (hm : mayP P = true) (hg : GoodP P) (h : Bln (printL P) o) : parseL o = .done P := parse_of hm (by rw [bln_filt h]; exact print_run hm hg)
def shortP (P : PrM) : PrM := { cutP P with fs := (cutP P).fs.take 4 }
theorem short_small (P : PrM) : SmallP (shortP P) ∧ (shortP P).fs.length ≤ 4 := by
  have h := small_cut P
  refine ⟨⟨h.g, ?_, fun f hf => h.a f (List.mem_of_mem_take hf)⟩, ?_⟩
  · show ((cutP P).fs.take 4).length ≤ 17
    have := h.f
    rw [List.length_take]; omega
  · show ((cutP P).fs.take 4).length ≤ 4
    rw [List.length_take]; omega
theorem good_cut {P : PrM} (h : GoodP P) : GoodP (shortP P) := by
  intro f hf i hi
  have h1 : f ∈ (cutP P).fs := List.mem_of_mem_take hf
  unfold cutP at h1
  simp only at h1
  obtain ⟨g, hg, rfl⟩ := List.mem_map.1 h1
  exact h g (List.mem_of_mem_take hg) i (List.mem_of_mem_take hi)
theorem allF_take {w : World} : ∀ {vs : List FnV} {fs : List FnM} (k : Nat), AllF w vs fs → AllF w (vs.take k) (fs.take k)
  | [], [], k, _ => by cases k <;> exact trivial
  | v :: vs, f :: fs, 0, h => trivial
  | v :: vs, f :: fs, k + 1, h => ⟨h.1, allF_take k h.2⟩
  | [], _ :: _, _, h => h.elim
  | _ :: _, [], _, h => h.elim
/-- A shortened program: its lists are older ones, but for the functions' own row. -/
structure ShortMade (W0 : World) (B : Nat) (w' : World) (q : PrV) (C : PrM) : Prop where
  u : q.u = C.u
  m : q.m = C.m
  g : ReadI W0 (.slice q.g.a q.g.n q.g.c) C.gl
  f : ∃ L n, OwnR fnE 60 w' B (.slice q.f.a n q.f.c) L ∧ q.f.n ≤ L.length ∧ AllF W0 (L.take q.f.n) C.fs
theorem shortMade_read {W0 w' : World} {B : Nat} {q : PrV} {C : PrM} (h : ShortMade W0 B w' q C) (hb : Below W0.heap.size W0 w') : ReadP w' q C := by
  obtain ⟨h1, h2, h3, L, n, h4, h5, h6⟩ := h
  exact ⟨h1, readI_below h3 hb, h2, _, readR_take (ownR_read h4) h5, allF_below hb h6⟩
theorem shortMade_grown {W0 w w' : World} {B j : Nat} {q : PrV} {C : PrM} (h : ShortMade W0 B w q C) (hg : w.grownBy w' (some j)) (hj : j < B) : ShortMade W0 B w' q C := by
  obtain ⟨h1, h2, h3, L, n, h4, h5, h6⟩ := h
  refine ⟨h1, h2, h3, L, n, ownR_kept h4 hg ?_, h5, h6⟩
  cases hv : (Value.slice q.f.a n q.f.c).ownBlock with
  | none => exact Or.inl rfl
  | some i => exact Or.inr (by intro e; injection e with e; have := (ownR_lt h4 i hv).1; omega)
theorem short_of {W0 w' : World} {B B' : Nat} {q : PrV} {P : PrM} (h : CutMade W0 B w' q (cutP P)) (hB : B' ≤ B) : (q.f.n ≤ 4 → ShortMade W0 B' w' q (shortP P)) ∧ (4 < q.f.n → 4 ≤ q.f.c ∧ ShortMade W0 B' w' { q with f := ⟨q.f.a, 4, q.f.c⟩ } (shortP P)) := by
  obtain ⟨h1, h2, h3, L, h4, h5⟩ := h
  have hl := allF_len h5
  obtain ⟨a0, c0, e, e2, e3⟩ := readR_len (ownR_read h4)
  have hn : q.f.n = L.length := by injection e
  have hc : q.f.c = c0 := by injection e
  refine ⟨fun hq => ⟨h1, h2, h3, L, q.f.n, ownR_mono h4 hB, by omega, ?_⟩, fun hq => ⟨by omega, h1, h2, h3, L, q.f.n, ownR_mono h4 hB, by show 4 ≤ L.length; omega, ?_⟩⟩
  · rw [List.take_of_length_le (by omega)]
    show AllF W0 L ((cutP P).fs.take 4)
    rw [List.take_of_length_le (by omega)]
    exact h5
  · exact allF_take 4 h5
set_option maxRecDepth 100000 in
set_option maxHeartbeats 2000000 in
theorem short_any (p : PrV) (P : PrM) (W0 w : World) (h : ReadP W0 p P) (hb0 : Below W0.heap.size W0 w) : Calls Tryd.prog 6 #[aggP p] w fun e w' => ∃ q, e = .returned (aggP q) ∧ ShortMade W0 w.heap.size w' q (shortP P) ∧ Below w.heap.size w w' := by
  obtain ⟨u, ⟨ga, gn, gc⟩, m, ⟨fa, fn, fc⟩⟩ := p
  have HR := Lib.hid h
  have H0 := Lib.hid hb0
  clear h hb0
  unfold aggP Sl.v
  simp only
  go_enter Tryd.func6, Tryd.ntmps6
  go_upto_region 1 with fail
  refine wp_named ?_
  intro W hW
  have HX : Hid (Blk W w.heap.size [.bool u, .slice ga gn gc, .int .i64 m, .slice fa fn fc]) := Lib.hid (by rw [hW]; exact blk_alloc (blk_new _ _ _) _)
  have HO : Hid (Blk W (w.heap.size + 1) [.bool false, .slice none 0 0, .int .i64 0, .slice none 0 0]) := Lib.hid (by
    have q := blk_new (w.alloc (.cells #[.bool u, .slice ga gn gc, .int .i64 m, .slice fa fn fc] 25)) #[.bool false, .slice none 0 0, .int .i64 0, .slice none 0 0] 25
    rw [World.size_alloc] at q
    rw [hW]; exact q)
  have HBW : Hid (Below w.heap.size w W) := Lib.hid (by rw [hW]; exact b_alloc (b_alloc (Below.refl _ _) _) _)
  clear hW
  obtain ⟨x0, x1, x2, x3, xf⟩ := blk4 HX.out
  have xz := HX.out.1
  have HC := Lib.hid (cut_made ⟨u, ⟨ga, gn, gc⟩, m, ⟨fa, fn, fc⟩⟩ P W0 W HR.out (b_call H0.out HBW.out))
  unfold aggP Sl.v at HC
  simp only at HC
  go_wp2_with fail
  refine (HC.out).mono ?_
  rintro e w1 ⟨q, rfl, hq, hb1⟩
  obtain ⟨qu, ⟨qa, qn, qc⟩, qm, ⟨ra, rn, rc⟩⟩ := q
  have HB1 := Lib.hid hb1
  have HS := Lib.hid (short_of hq (by have := HBW.out.size; exact this : w.heap.size ≤ W.heap.size))
  have hcap : rn ≤ rc ∧ (rc : Int) ≤ 9223372036854775807 := by
    obtain ⟨_, _, _, L, h4, _⟩ := hq
    have q2 := slr_cap (ownR_read h4)
    have q3 := cap_le q2.2.1
    simp only at q3
    exact ⟨q2.1, by omega⟩
  obtain ⟨hc1, hc2⟩ := hcap
  have HQ := Lib.hid hq
  clear hq hb1 HC x0 x1 x2 x3 xf xz
  obtain ⟨x0, x1, x2, x3, xf⟩ := blk4 (blk_below HX.out HB1.out)
  have xz := (blk_below HX.out HB1.out).1
  simp only
  go_upto_region 2 with fail
  refine wp_named ?_
  intro W2 hW2
  have HX2 : Hid (Blk W2 w.heap.size [.bool qu, .slice qa qn qc, .int .i64 qm, .slice ra rn rc]) := Lib.hid (by rw [hW2]; exact blk_set (blk_set (blk_set (blk_set (blk_below HX.out HB1.out) 0 _) 1 _) 2 _) 3 _)
  have HO2 : Hid (Blk W2 (w.heap.size + 1) [.bool false, .slice none 0 0, .int .i64 0, .slice none 0 0]) := Lib.hid (by rw [hW2]; exact blk_other (blk_other (blk_other (blk_other (blk_below HO.out HB1.out) (by simp) _) (by simp) _) (by simp) _) (by simp) _)
  have HB2 : Hid (Below w.heap.size w W2) := Lib.hid (by rw [hW2]; exact b_set (b_set (b_set (b_set (b_call HBW.out HB1.out) (Nat.le_refl _) _) (Nat.le_refl _) _) (Nat.le_refl _) _) (Nat.le_refl _) _)
  have HQ2 : Hid (CutMade W0 W.heap.size W2 ⟨qu, ⟨qa, qn, qc⟩, qm, ⟨ra, rn, rc⟩⟩ (cutP P)) := Lib.hid (cutMade_grown HQ.out (j := w.heap.size) (by rw [hW2]; exact gb_set (gb_set (gb_set (gb_set (gb_refl w1 (some w.heap.size)) 0 none _) 1 none _) 2 none _) 3 none _) (by have := HX.out.1; omega))
  have HWS : Hid (w.heap.size + 1 < W.heap.size) := Lib.hid HO.out.1
  clear hW2 x0 x1 x2 x3 xf xz HQ HS
  obtain ⟨x0, x1, x2, x3, xf⟩ := blk4 HX2.out
  have xz := HX2.out.1
  obtain ⟨y0, y1, y2, y3, yf⟩ := blk4 HO2.out
  have yz := HO2.out.1
  by_cases h4 : 4 < rn
  · have h4' : (4 : Int) < rn := by omega
    have hc4 : 4 ≤ rc := by omega
    have hc4' : (4 : Int) ≤ rc := by omega
    go_wp2_with fail
    refine post_named ?_
    intro wF hwF
    have BF : Blk wF (w.heap.size + 1) [.bool qu, .slice qa qn qc, .int .i64 qm, .slice ra 4 rc] := by rw [hwF]; exact blk_set (blk_set (blk_set (blk_set (blk_other HO2.out (by simp) _) 0 _) 1 _) 2 _) 3 _
    have FB : Below w.heap.size w wF := by rw [hwF]; exact b_set (b_set (b_set (b_set (b_set HB2.out (Nat.le_refl _) _) (Nat.le_succ _) _) (Nat.le_succ _) _) (Nat.le_succ _) _) (Nat.le_succ _) _
    have FM : CutMade W0 W.heap.size wF ⟨qu, ⟨qa, qn, qc⟩, qm, ⟨ra, rn, rc⟩⟩ (cutP P) := by
      rw [hwF]
      have z1 := cutMade_grown HQ2.out (j := w.heap.size) (gb_set (gb_refl W2 (some w.heap.size)) 3 none (.slice ra 4 rc)) (by have := HWS.out; omega)
      exact cutMade_grown z1 (j := w.heap.size + 1) (gb_set (gb_set (gb_set (gb_set (gb_refl _ (some (w.heap.size + 1))) 0 none _) 1 none _) 2 none _) 3 none _) HWS.out
    clear hwF
    obtain ⟨q0, q1, q2, q3, _⟩ := blk4 BF
    exact bodyPost_ret (v := .agg #[.bool qu, .slice qa qn qc, .int .i64 qm, .slice ra 4 rc]) (by simp [results, Tryd.results6, go_sem, q0, q1, q2, q3]) rfl ⟨⟨qu, ⟨qa, qn, qc⟩, qm, ⟨ra, 4, rc⟩⟩, rfl, ((short_of FM (by have := HWS.out; omega)).2 h4).2, FB⟩
  · have h4' : (rn : Int) ≤ 4 := by omega
    go_wp2_with fail
    refine post_named ?_
    intro wF hwF
    have BF : Blk wF (w.heap.size + 1) [.bool qu, .slice qa qn qc, .int .i64 qm, .slice ra rn rc] := by rw [hwF]; exact blk_set (blk_set (blk_set (blk_set HO2.out 0 _) 1 _) 2 _) 3 _
    have FB : Below w.heap.size w wF := by rw [hwF]; exact b_set (b_set (b_set (b_set HB2.out (Nat.le_succ _) _) (Nat.le_succ _) _) (Nat.le_succ _) _) (Nat.le_succ _) _
    have FM : CutMade W0 W.heap.size wF ⟨qu, ⟨qa, qn, qc⟩, qm, ⟨ra, rn, rc⟩⟩ (cutP P) := by
      rw [hwF]
      exact cutMade_grown HQ2.out (j := w.heap.size + 1) (gb_set (gb_set (gb_set (gb_set (gb_refl _ (some (w.heap.size + 1))) 0 none _) 1 none _) 2 none _) 3 none _) HWS.out
    clear hwF
    obtain ⟨q0, q1, q2, q3, _⟩ := blk4 BF
    exact bodyPost_ret (v := .agg #[.bool qu, .slice qa qn qc, .int .i64 qm, .slice ra rn rc]) (by simp [results, Tryd.results6, go_sem, q0, q1, q2, q3]) rfl ⟨⟨qu, ⟨qa, qn, qc⟩, qm, ⟨ra, rn, rc⟩⟩, rfl, (short_of FM (by have := HWS.out; omega)).1 (by show rn ≤ 4; omega), FB⟩
theorem wake_text : filtW (linesL ([103, 108, 111, 98, 97, 108, 115, 32, 45, 10, 109, 117, 116, 101, 120, 101, 115, 32, 48, 10, 102, 117, 110, 99, 32, 45, 32, 45, 32, 105, 10, 112, 117].append [115, 104, 32, 48, 120, 48, 48, 48, 48, 48, 48, 48, 48, 48, 48, 48, 48, 48, 48, 48, 55, 32, 59, 32, 115, 101, 118, 101, 110, 10, 114, 101, 116, 10])) = [[sGlob, [45]], [sMut, [48]], [sFunc, [45], [45], [105]], [nameL 1, wideL 7], [[114, 101, 116]]] := by decide +kernel
def prW34 : PrM := ⟨false, [], 0, [⟨[], [], 0, [⟨1, 7, 0, 0⟩, ⟨15, 0, 0, 0⟩]⟩]⟩
theorem wake_may34 : mayP prW34 = true := by decide
theorem wake_good34 : GoodP prW34 := by
  intro f hf i hi
  simp only [prW34, List.mem_singleton] at hf
  subst hf
  simp only [List.mem_cons, List.not_mem_nil, or_false] at hi
  rcases hi with rfl | rfl <;> exact ⟨by decide, by decide⟩
theorem wake_print : filtW (linesL (printL prW34)) = [[sGlob, [45]], [sMut, [48]], [sFunc, [45], [45], [105]], [nameL 1, wideL 7], [[114, 101, 116]]] := by
  have hn : numI 0 = [48] := by
    unfold numI
    rw [show (0 : Int).toNat = 0 from rfl, numL_lt (by omega)]; rfl
  unfold printL topL
  rw [show prW34.m = 0 from rfl, hn]
  decide +kernel
theorem wake_parse : parseL ([103, 108, 111, 98, 97, 108, 115, 32, 45, 10, 109, 117, 116, 101, 120, 101, 115, 32, 48, 10, 102, 117, 110, 99, 32, 45, 32, 45, 32, 105, 10, 112, 117].append [115, 104, 32, 48, 120, 48, 48, 48, 48, 48, 48, 48, 48, 48, 48, 48, 48, 48, 48, 48, 55, 32, 59, 32, 115, 101, 118, 101, 110, 10, 114, 101, 116, 10]) = .done prW34 := by
  refine parse_of wake_may34 ?_
  rw [wake_text, ← print_run wake_may34 wake_good34]
  rw [wake_print]
theorem wake_cells {w : World} {q : PrV} (hq : ReadP w q prW34) : ∃ bl off fc b2 o2 cc, q.f.a = some ⟨bl, off, none⟩ ∧ q.f.n = 1 ∧ q.f.c = fc ∧ 1 ≤ fc ∧ (fc : Int) ≤ 9223372036854775807 ∧ bl < w.heap.size ∧ w.cell? ⟨bl, off + 3, none⟩ = some (.slice (some ⟨b2, o2, none⟩) 2 cc) ∧ 2 ≤ cc ∧ (cc : Int) ≤ 9223372036854775807 ∧ b2 < w.heap.size ∧ w.cell? ⟨b2, o2 + 1, none⟩ = some (.int .u64 7) := by
  obtain ⟨_, _, _, L, hL, hA⟩ := hq
  have hlen : L.length = 1 := allF_len hA
  obtain ⟨bl, off, cp, e1, r1, r2, hbl, r4⟩ := readR_pos hL (by omega)
  have hcs := (fn_cells r4 0 (by omega)).2.2.2
  have hd := (allF_at hA 0 (by omega) (by show 0 < 1; omega)).c
  generalize L[0] = v at hcs hd
  obtain ⟨b2, o2, c2, f1, s1, s2, hb2, s4⟩ := readR_pos hd (by show 0 < 2; omega)
  have x7 := s4 0 (by show 0 < 2; omega) 1 (by decide)
  have f1' : Value.slice v.c.a v.c.n v.c.c = _ := f1
  first | rw [f1] at hcs | rw [f1'] at hcs
  injection e1 with a1 a2 a3
  have t1 := cap_le r2
  have t2 := cap_le s2
  rw [hlen] at r1
  have s1' : 2 ≤ c2 := s1
  refine ⟨bl, off, cp, b2, o2, c2, a1, by rw [a2, hlen], a3, r1, by omega, hbl, ?_, s1', by omega, hb2, ?_⟩
  · have e : off + 0 * 4 + 3 = off + 3 := by omega
    first | exact hcs | (rw [← e]; exact hcs) | (simpa using hcs)
  · have e : o2 + (0 * inE.size + 1) = o2 + 1 := by omega
    rw [e] at x7
    exact x7
set_option maxRecDepth 100000 in
set_option maxHeartbeats 2000000 in
theorem awake34 (w : World) (hm : MaxAt w) : Calls Tryd.prog 8 #[] w fun e w' => e = .returned (.bool true) ∧ Below w.heap.size w w' := by
  have HP := Lib.hid (aparse_any ([103, 108, 111, 98, 97, 108, 115, 32, 45, 10, 109, 117, 116, 101, 120, 101, 115, 32, 48, 10, 102, 117, 110, 99, 32, 45, 32, 45, 32, 105, 10, 112, 117].append [115, 104, 32, 48, 120, 48, 48, 48, 48, 48, 48, 48, 48, 48, 48, 48, 48, 48, 48, 48, 55, 32, 59, 32, 115, 101, 118, 101, 110, 10, 114, 101, 116, 10]) w (by decide) hm)
  rw [wake_parse] at HP
  unfold strV ParseEnd at HP
  go_enter Tryd.func8, Tryd.ntmps8
  go_wp2_with fail
  refine (HP.out).mono ?_
  rintro e w1 ⟨hb1, q, rfl, hq⟩
  obtain ⟨bl, off, fc, b2, o2, cc, e1, e2, e3, z1, z2, z3, z4, z5, z6, z7, z8⟩ := wake_cells hq
  have HB1 := Lib.hid hb1
  clear hq hb1
  obtain ⟨qu, ⟨qa, qn, qc⟩, qm, ⟨ra, rn, rc⟩⟩ := q
  simp only at e1 e2 e3
  subst e1 e2 e3
  unfold aggP Sl.v
  simp only
  go_upto_region 2 with fail
  refine wp_named ?_
  intro W2 hW2
  have HB2 : Hid (Below w1.heap.size w1 W2) := Lib.hid (by rw [hW2]; exact b_alloc (Below.refl _ _) _)
  have HX2 : Hid (Blk W2 w1.heap.size [.bool qu, .slice qa qn qc, .int .i64 qm, .slice (some ⟨bl, off, none⟩) 1 rc]) := Lib.hid (by rw [hW2]; exact blk_new _ _ _)
  clear hW2
  obtain ⟨x0, x1, x2, x3, xf⟩ := blk4 HX2.out
  have xz := HX2.out.1
  have y3 : W2.cell? ⟨bl, off + 3, none⟩ = some (.slice (some ⟨b2, o2, none⟩) 2 cc) := ((bcell HB2.out).1 _ _ z3).trans z4
  have y7 : W2.cell? ⟨b2, o2 + 1, none⟩ = some (.int .u64 7) := ((bcell HB2.out).1 _ _ z7).trans z8
  have z3' : bl < W2.heap.size := by have := HB2.out.size; omega
  have z7' : b2 < W2.heap.size := by have := HB2.out.size; omega
  go_wp2_with fail
  go_ret
  exact ⟨rfl, b_call HB1.out HB2.out⟩
theorem maxAt_shaped {W : World} (h : W.ShapedOpen Tryd.prog) : MaxAt W := by
  obtain ⟨m, hm⟩ := Go.Proofs.cell_of_shapedOpen_int (g := 0) (zero := #[.int .i64 0]) (t := 3) h (of_decide_eq_true (by kernel_rfl)) (by kernel_rfl) rfl (by kernel_rfl) (by kernel_rfl) Tryd.underlying3
  exact ⟨World.block_lt_of_cell? _ _ hm, m, hm⟩
theorem returns_and_shaped {H : Type} {enc : TypeId × Value → H} {a : Assume} {C : Checked} {os : Os} {f : FuncId} {fn : Func} {s : ChangeSpec} {conds : List PathCond} {apart fresh handsOn again : Bool} {X : World → Array Value → Prop}
    (hX : ∀ (w w' : World) (args : Array Value), w.heap = w'.heap → X w args → X w' args)
    (own : ownKnob C.prog.godebug = none) (started : os.Started) (noInit : C.prog.inits.idxOf? f = none) (hfn : C.prog.funcs[f]? = some fn)
    (witness : ∃ (w : World) (tape : Tape) (i : Input), w.os = os ∧ (w.forCall tape i).Shaped C.prog ∧ i.vars = [] ∧ Input.okWide C.prog (w.forCall tape i) .any w.heap.size f i ∧
      ((s.pre enc C.prog fn conds apart (w.forCall tape i).memory i.args ∧ X (w.forCall tape i).memory i.args) ∧ sizedMet enc C.prog fn (OpenSpec.ofChange s) apart (w.forCall tape i).memory i.args) ∧ a.holds C.prog (lone (Frame.enter C.prog f i.args .normal) [] (w.forCall tape i)))
    (contract : ∀ (W : World) (base : Nat) (args : Array Value) (ds gs : List (DataW H)) (before : List MemPlace),
      (∀ (j : Nat) t v, fn.params[j]? = some t → args[j]? = some v → Value.okWide C.prog W .any base t v) →
      DataW.Whole enc C.prog fn.params.toList s.vars apart W args.toList ds gs before →
      X W args → W.ShapedOpen C.prog →
      Calls C.prog f args W fun e W' => ∃ v, e = .returned v ∧ s.post enc C.prog fn apart fresh handsOn again W args v W') :
    ReturnsInHanded a C os f .any (fun w args => (s.pre enc C.prog fn conds apart w args ∧ X w args) ∧ sizedMet enc C.prog fn (OpenSpec.ofChange s) apart w args) (s.post enc C.prog fn apart fresh handsOn again) := by
  refine returnsInHanded_of_calls own started noInit witness ?_
  intro w tape i _ hsh _ hok hpre hholds
  obtain ⟨_, _, _, fn', hfn', _, _, _, _, hval⟩ := hok
  have e : fn' = fn := Option.some.inj (hfn'.symm.trans hfn)
  subst e
  obtain ⟨⟨⟨ds, gs, before, hw, hc⟩, hx⟩, hz⟩ := hpre
  have hw' := DataW.Whole.of_heap (w' := w.forCall tape i) (by rfl) hw
  refine (contract (w.forCall tape i) w.heap.size i.args ds gs before hval hw' (hX _ _ _ (by rfl) hx) hsh).mono fun e W' ⟨v, he, hp⟩ => ?_
  subst he
  exact ChangeSpec.post_blind hp
theorem i_and3 (n : Int) : bits .and .i64 n 3 = n % 4 := by
  have h15 : (BitVec.ofInt 64 3).toNat = 2 ^ 2 - 1 := by decide
  have key : (BitVec.ofInt 64 n &&& BitVec.ofInt 64 3).toNat = (n % ((2 ^ 64 : Nat) : Int)).toNat % 2 ^ 2 := by
    rw [BitVec.toNat_and, BitVec.toNat_ofInt, h15, Nat.and_two_pow_sub_one_eq_mod]
  show IntKind.i64.wrap ((BitVec.ofInt 64 n &&& BitVec.ofInt 64 3).toNat : Nat) = n % 4
  rw [key, IntKind.wrap_i64]
  omega
theorem sfx_len (k : Nat) : (sfxL k).length ≤ 4 ∧ (extL k).length ≤ 4 ∧ (preK k).length ≤ 1 := by
  refine ⟨?_, ?_, ?_⟩
  · unfold sfxL; split <;> decide
  · unfold extL; split <;> decide
  · unfold preK; split <;> decide
theorem print_len {P : PrM} (hm : mayP P = true) (h4 : P.fs.length ≤ 4) : (printL P).length ≤ 12220 := by
  obtain ⟨_, ⟨m1, m2⟩, ⟨_, g2⟩, hf⟩ := mayP_parts hm
  have ht := top_len P (by omega) (by omega)
  have hc : ∀ (c : List In4), (∀ i ∈ c, mayB i.op i.x i.a i.b = true) → (codeL c).length ≤ 26 * c.length := by
    intro c
    induction c with
    | nil => intro _; exact Nat.le_refl _
    | cons i r ih =>
      intro h
      obtain ⟨_, ⟨_, h1⟩, ⟨_, h2⟩⟩ := may_bd (h i (by simp))
      have a := line_len h1 h2
      have b := ih (fun j hj => h j (by simp [hj]))
      show ((lineL i ++ [10]) ++ codeL r).length ≤ _
      simp only [List.length_append, List.length_cons, List.length_nil]
      omega
  have hfs : ∀ (fs : List FnM), (∀ f ∈ fs, mayF f = true) → (fs.flatMap funcL).length ≤ 3000 * fs.length := by
    intro fs
    induction fs with
    | nil => intro _; exact Nat.le_refl _
    | cons f r ih =>
      intro h
      obtain ⟨⟨_, p2⟩, ⟨_, p4⟩, _, ⟨_, p6⟩, p7⟩ := mayF_parts (h f (by simp))
      have a := head_len f (by omega) (by omega)
      have b := hc f.code p7
      have c := ih (fun g hg => h g (by simp [hg]))
      rw [List.flatMap_cons]
      show ((headL f ++ codeL f.code) ++ _).length ≤ _
      simp only [List.length_append, List.length_cons]
      omega
  have := hfs P.fs hf
  unfold printL
  rw [List.length_append]
  omega
theorem bext (T : List UInt8) (k : Nat) (h : k < T.length) : (⟨T.toArray⟩ : ByteArray).extract k (k + 1) = ⟨[T[k]].toArray⟩ := by
  apply ByteArray.ext
  rw [ByteArray.data_extract]
  show T.toArray.extract k (k + 1) = _
  rw [List.extract_toArray]
  congr 1
  rw [List.extract_eq_take_drop, Nat.add_sub_cancel_left, List.drop_eq_getElem_cons h]
  rfl
theorem sfx_tab (kk : Nat) (h : kk < 4) : (#[Value.string ⟨#[]⟩, Value.string ⟨#[32, 59, 32, 120]⟩, Value.string ⟨#[9]⟩, Value.string ⟨#[59]⟩] : Array Value)[kk]? = some (.string ⟨(sfxL kk).toArray⟩) := by
  match kk, h with
  | 0, _ | 1, _ | 2, _ | 3, _ => rfl
theorem ext_tab (kk : Nat) (h : kk < 4) : (#[Value.string ⟨#[]⟩, Value.string ⟨#[10]⟩, Value.string ⟨#[32, 10]⟩, Value.string ⟨#[59, 32, 121, 10]⟩] : Array Value)[kk]? = some (.string ⟨(extL kk).toArray⟩) := by
  match kk, h with
  | 0, _ | 1, _ | 2, _ | 3, _ => rfl
theorem pre_tab (kk : Nat) (h : kk < 4) : (#[Value.string ⟨#[]⟩, Value.string ⟨#[32]⟩, Value.string ⟨#[9]⟩, Value.string ⟨#[]⟩] : Array Value)[kk]? = some (.string ⟨(preK kk).toArray⟩) := by
  match kk, h with
  | 0, _ | 1, _ | 2, _ | 3, _ => rfl
/-- The text with blanks, a letter or a line's end on. -/
theorem bln_ch {t o : List UInt8} {i : Nat} (h : Bln (t.take i) o) (hi : i < t.length) {c : UInt8} (hc : t[i] = c) (hn : c ≠ 10) : Bln (t.take (i + 1)) (o ++ [c]) := by
  rw [take_snoc hi, hc]; exact .ch c h hn
theorem bln_nl {t o : List UInt8} {i k : Nat} (h : Bln (t.take i) o) (hi : i < t.length) (hc : t[i] = 10) (hk : k < 4) : Bln (t.take (i + 1)) (o ++ sfxL k ++ [10] ++ extL k ++ preK k) := by
  rw [take_snoc hi, hc]; exact .nl k h hk
set_option maxRecDepth 100000 in
set_option maxHeartbeats 4000000 in
theorem asmBlank_any (p : PrV) (P : PrM) (sv : Value) (xs : List Int) (w : World) (h : ReadP w p P) (hg : GoodP P) (hs : ReadI w sv xs) (hm : MaxAt w) : Calls Tryd.prog 3 #[aggP p, sv] w fun e w' => e = .returned (.bool true) ∧ Below w.heap.size w w' := by
  obtain ⟨u, ⟨ga, gn, gc⟩, m, ⟨fa, fn, fc⟩⟩ := p
  obtain ⟨sa, sc, rfl⟩ := readI_len hs
  have hsl := (sli_cap hs)
  have hsl1 := hsl.1
  have hsl2 : (sc : Int) ≤ 9223372036854775807 := by have := cap_le hsl.2.1; omega
  have HR := Lib.hid h
  have HS := Lib.hid hs
  have HM := Lib.hid hm
  have HSM := Lib.hid (short_small P)
  have HGD := Lib.hid (good_cut hg)
  clear h hs hm hg hsl
  unfold aggP Sl.v
  simp only
  generalize hC : shortP P = C at *
  go_enter Tryd.func3, Tryd.ntmps3
  go_upto_region 1 with fail
  refine wp_named ?_
  intro W hW
  have HX : Hid (Blk W w.heap.size [.bool u, .slice ga gn gc, .int .i64 m, .slice fa fn fc]) := Lib.hid (by rw [hW]; exact blk_new _ _ _)
  have HBW : Hid (Below w.heap.size w W) := Lib.hid (by rw [hW]; exact b_alloc (Below.refl _ _) _)
  clear hW
  obtain ⟨x0, x1, x2, x3, xf⟩ := blk4 HX.out
  have xz := HX.out.1
  have HC := Lib.hid (short_any ⟨u, ⟨ga, gn, gc⟩, m, ⟨fa, fn, fc⟩⟩ P w W HR.out HBW.out)
  rw [hC] at HC
  clear hC
  unfold aggP Sl.v at HC
  simp only at HC
  go_wp2_with fail
  refine (HC.out).mono ?_
  rintro e w1 ⟨q, rfl, hq, hb1⟩
  obtain ⟨qu, ⟨qa, qn, qc⟩, qm, ⟨ra, rn, rc⟩⟩ := q
  have HB1 := Lib.hid hb1
  have HQ := Lib.hid hq
  clear hq hb1 HC x0 x1 x2 x3 xf xz
  obtain ⟨x0, x1, x2, x3, xf⟩ := blk4 (blk_below HX.out HB1.out)
  have xz := (blk_below HX.out HB1.out).1
  simp only
  go_upto_region 2 with fail
  refine wp_named ?_
  intro W2 hW2
  have HX2 : Hid (Blk W2 w.heap.size [.bool qu, .slice qa qn qc, .int .i64 qm, .slice ra rn rc]) := Lib.hid (by rw [hW2]; exact blk_set (blk_set (blk_set (blk_set (blk_below HX.out HB1.out) 0 _) 1 _) 2 _) 3 _)
  have HB2 : Hid (Below w.heap.size w W2) := Lib.hid (by rw [hW2]; exact b_set (b_set (b_set (b_set (b_call HBW.out HB1.out) (Nat.le_refl _) _) (Nat.le_refl _) _) (Nat.le_refl _) _) (Nat.le_refl _) _)
  have HP2 : Hid (ReadP W2 ⟨qu, ⟨qa, qn, qc⟩, qm, ⟨ra, rn, rc⟩⟩ C) := Lib.hid (shortMade_read (shortMade_grown HQ.out (j := w.heap.size) (by rw [hW2]; exact gb_set (gb_set (gb_set (gb_set (gb_refl w1 (some w.heap.size)) 0 none _) 1 none _) 2 none _) 3 none _) (by have := HX.out.1; omega)) HB2.out)
  clear hW2 x0 x1 x2 x3 xf xz HQ HX HB1 HBW
  have HY : Hid (∀ w', Below W2.heap.size W2 w' → w'.cell? ⟨w.heap.size, 0, none⟩ = some (.bool qu) ∧ w'.cell? ⟨w.heap.size, 1, none⟩ = some (.slice qa qn qc) ∧ w'.cell? ⟨w.heap.size, 2, none⟩ = some (.int .i64 qm) ∧ w'.cell? ⟨w.heap.size, 3, none⟩ = some (.slice ra rn rc)) := Lib.hid (fun w' hb => by
    obtain ⟨y0, y1, y2, y3, _⟩ := blk4 (blk_below HX2.out hb)
    exact ⟨y0, y1, y2, y3⟩)
  have HMAY := Lib.hid (rmay25_any ⟨qu, ⟨qa, qn, qc⟩, qm, ⟨ra, rn, rc⟩⟩ C W2 HP2.out)
  unfold aggP Sl.v at HMAY
  simp only at HMAY
  obtain ⟨x0, x1, x2, x3⟩ := HY.out W2 (Below.refl _ _)
  have xz := HX2.out.1
  go_wp2_with fail
  refine (HMAY.out).mono ?_
  rintro e w3 ⟨rfl, hb3⟩
  have HB3 := Lib.hid hb3
  clear hb3 x0 x1 x2 x3 xz HMAY
  cases hmay : mayP C with
  | false =>
    have HAW := Lib.hid (awake34 w3 (max_below HM.out (b_call HB2.out HB3.out)))
    go_wp2_with fail
    refine (HAW.out).mono ?_
    rintro e w4 ⟨rfl, hb4⟩
    have HB4 := Lib.hid hb4
    clear hb4
    go_wp2_with fail
    go_ret
    exact ⟨rfl, b_call (b_call HB2.out HB3.out) HB4.out⟩
  | true =>
    have HMC := Lib.hid hmay
    clear hmay
    have HPR := Lib.hid (rprint_any ⟨qu, ⟨qa, qn, qc⟩, qm, ⟨ra, rn, rc⟩⟩ C w3 (readP_below HP2.out HB3.out) HMC.out HGD.out)
    have hpl := print_len HMC.out HSM.out.2
    have HBL := Lib.hid (fun o (h : Bln (printL C) o) => bln_parse HMC.out HGD.out h)
    generalize printL C = T at *
    unfold aggP Sl.v strV at HPR
    simp only at HPR
    obtain ⟨x0, x1, x2, x3⟩ := HY.out w3 HB3.out
    have xz : w.heap.size < w3.heap.size := by have := HX2.out.1; have := HB3.out.size; omega
    go_wp2_with fail
    refine (HPR.out).mono ?_
    rintro e w4 ⟨rfl, hb4⟩
    have HB4 := Lib.hid (b_call HB3.out hb4)
    clear hb4 x0 x1 x2 x3 xz HPR
    go_wp2_with fail
    go_loopw [6, 7, 8] (fun o j i wr => ∃ k : Nat, k ≤ T.length ∧ i = .int .i64 k ∧ ∃ n : Nat, n ≤ k ∧ j = .int .i64 n ∧ ∃ x : List UInt8, o = strV x ∧ x.length ≤ 11 * k ∧ Hid (Bln (T.take k) x) ∧ Hid (Below W2.heap.size W2 wr)) (fun _ _ i _ => T.length - (intOf i).toNat)
    case atStart => exact ⟨0, Nat.zero_le _, rfl, 0, Nat.le_refl _, rfl, [], rfl, Nat.zero_le _, Lib.hid .nil, HB4⟩
    case round =>
      obtain ⟨k, hk, rfl, n, hn, rfl, x, rfl, hx, HBN, HBR⟩ := hrel
      have hk0 : (0 : Int) ≤ k := by omega
      have hn0 : (0 : Int) ≤ n := by omega
      unfold strV
      by_cases hlt : k < T.length
      · have HK := Lib.hid hlt
        have k1 : (k : Int) < T.length := by omega
        obtain ⟨c, hc⟩ : ∃ c, (⟨T.toArray⟩ : ByteArray)[k]'(by show k < T.toArray.size; simpa using hlt) = c := ⟨_, rfl⟩
        have HTC : Hid (T[k] = c) := Lib.hid hc
        by_cases h10 : c = 10
        · subst h10
          have h10i : (((10 : UInt8).toNat : Int) != 10) = false := by decide
          -- R16
          go_upto_if 41 with fail
          go_cut [9] from 21 to 65 (fun s wc => wc = wr ∧ ∃ kk : Nat, kk < 4 ∧ s = .int .i64 kk)
          case first =>
            by_cases hnl : n < xs.length
            · obtain ⟨b, o, cap, e1, r1, r2, hb, r4⟩ := readI_pos (readI_below HS.out (b_call HB2.out HBR.out)) (by omega)
              injection e1 with e1 _ e3
              subst e1 e3
              have n1 : (n : Int) < xs.length := by omega
              have c4 := r4 n hnl
              go_wp2_with fail
              go_meet
              case rel => exact ⟨rfl, (xs[n] % 4).toNat, by omega, by rw [i_and3]; exact congrArg (Value.int .i64) (by omega)⟩
            · have n1 : (xs.length : Int) ≤ n := by omega
              go_wp2_with fail
              go_meet
              case rel => exact ⟨rfl, 0, by omega, rfl⟩
          case rest =>
            obtain ⟨hwc, kk, hkk, rfl⟩ := hcut
            replace hwc := hwc.symm
            subst hwc
            have kk0 : (0 : Int) ≤ kk := by omega
            have kk4 : (kk : Int) < 4 := by omega
            have Hsfx_tab := Lib.hid (sfx_tab kk hkk)
            have Hext_tab := Lib.hid (ext_tab kk hkk)
            have Hpre_tab := Lib.hid (pre_tab kk hkk)
            obtain ⟨l1, l2, l3⟩ := sfx_len kk
            obtain ⟨sA, hsA⟩ : ∃ s, sfxL kk = s := ⟨_, rfl⟩
            obtain ⟨sB, hsB⟩ : ∃ s, extL kk = s := ⟨_, rfl⟩
            obtain ⟨sC, hsC⟩ : ∃ s, preK kk = s := ⟨_, rfl⟩
            rw [hsA] at Hsfx_tab l1
            rw [hsB] at Hext_tab l2
            rw [hsC] at Hpre_tab l3
            have HSA := Lib.hid hsA
            have HSB := Lib.hid hsB
            have HSC := Lib.hid hsC
            clear hsA hsB hsC
            go_upto_region 16 with fail
            refine wp_region_held_drew (S := fun w' => True) (by kernel_rfl) trivial (fun hHeld => ?_)
            have g1 : (9223372036854775807 < x.length + sA.length) = False := by simp; omega
            have g2 : (9223372036854775807 < x.length + sA.length + 1) = False := by simp; omega
            have g3 : (9223372036854775807 < x.length + sA.length + 1 + sB.length) = False := by simp; omega
            have g4 : (9223372036854775807 < x.length + sA.length + 1 + sB.length + sC.length) = False := by simp; omega
            (refine wpAnyH_take (i := 0) (v := ?_) rfl (by kernel_rfl) (by kernel_rfl) (by kernel_rfl) (fun _ _ _ h => h) (Or.inl ⟨by rfl, ?_⟩) hHeld ?_; rotate_left; (focus (intro w hSw; (try dsimp only at hSw); go_simp; try (with_reducible rfl))); (try simp only [Act.put, List.getElem_toArray, List.getElem_cons_succ, List.getElem_cons_zero, List.setIfInBounds_toArray, List.set_cons_zero, List.set_cons_succ]))
            (refine wpAnyH_take (i := 2) (v := ?_) rfl (by kernel_rfl) (by kernel_rfl) (by kernel_rfl) (fun _ _ _ h => h) (Or.inl ⟨by rfl, ?_⟩) hHeld ?_; rotate_left; (focus (intro w hSw; (try dsimp only at hSw); go_simp; try (with_reducible rfl))); (try simp only [Act.put, List.getElem_toArray, List.getElem_cons_succ, List.getElem_cons_zero, List.setIfInBounds_toArray, List.set_cons_zero, List.set_cons_succ]))
            (refine wpAnyH_take (i := 8) (v := ?_) rfl (by kernel_rfl) (by kernel_rfl) (by kernel_rfl) (fun _ _ _ h => h) (Or.inl ⟨by rfl, ?_⟩) hHeld ?_; rotate_left; (focus (intro w hSw; (try dsimp only at hSw); go_simp; try (with_reducible rfl))); (try simp only [Act.put, List.getElem_toArray, List.getElem_cons_succ, List.getElem_cons_zero, List.setIfInBounds_toArray, List.set_cons_zero, List.set_cons_succ]))
            (refine wpAnyH_take (i := 13) (v := ?_) rfl (by kernel_rfl) (by kernel_rfl) (by kernel_rfl) (fun _ _ _ h => h) (Or.inl ⟨by rfl, ?_⟩) hHeld ?_; rotate_left; (focus (intro w hSw; (try dsimp only at hSw); go_simp; try (with_reducible rfl))); (try simp only [Act.put, List.getElem_toArray, List.getElem_cons_succ, List.getElem_cons_zero, List.setIfInBounds_toArray, List.set_cons_zero, List.set_cons_succ]))
            refine wpAnyH_ready (rs := [1, 7, 12]) (by kernel_rfl) (by simp) (AllReadyH.cons rfl (fun K hK => ?_) (AllReadyH.cons rfl (fun K hK => ?_) (AllReadyH.cons rfl (fun K hK => ?_) (AllReadyH.nil))))
            · skip
              go_simp
              refine hK.out _ _ (trivial) (fun hHeld => ?_)
              clear hK K
              (try simp only [Act.put, List.getElem_toArray, List.getElem_cons_succ, List.getElem_cons_zero, List.setIfInBounds_toArray, List.set_cons_zero, List.set_cons_succ])
              refine wpAnyH_named ?_
              intro W_A hW_A
              have HZ_A : Hid (Below wr.heap.size wr W_A) := Lib.hid (by rw [hW_A]; exact b_alloc (b_drew (Below.refl _ _)) _)
              have N_A : W_A.cell? ⟨wr.heap.size, kk, none⟩ = some (.string ⟨sA.toArray⟩) := by rw [hW_A]; exact (World.cell?_alloc_new wr.drew _ _ _).trans Hsfx_tab.out
              have L_A : wr.heap.size < W_A.heap.size := by rw [hW_A]; simp
              have HA_A : Hid (∀ w', Below W_A.heap.size W_A w' → w'.cell? ⟨wr.heap.size, kk, none⟩ = some (.string ⟨sA.toArray⟩)) := Lib.hid (fun w' hb => ((bcell hb).1 _ _ L_A).trans N_A)
              clear hW_A N_A L_A
              refine wpAnyH_switch (S' := fun w' => w'.cell? ⟨wr.heap.size, kk, none⟩ = some (.string ⟨sA.toArray⟩)) (fun _ h => trivial) (HA_A.out _ (Below.refl _ _)) (fun hHeld => ?_)
              refine atI 3 ?_
              iterate 2 (refine takeN (v := ?_) rfl (by rfl) ?_ hHeld ?_; rotate_left; (focus (intro w hSw; (try dsimp only at hSw); go_simp; try (with_reducible rfl))); (try simp only [Act.put, Nat.reduceAdd, List.getElem_toArray, List.getElem_cons_succ, List.getElem_cons_zero, List.setIfInBounds_toArray, List.set_cons_zero, List.set_cons_succ]))
              refine atIo ?_
              refine atI 5 ?_
              iterate 2 (refine takeN (v := ?_) rfl (by rfl) ?_ hHeld ?_; rotate_left; (focus (intro w hSw; (try dsimp only at hSw); go_simp; try (with_reducible rfl))); (try simp only [Act.put, Nat.reduceAdd, List.getElem_toArray, List.getElem_cons_succ, List.getElem_cons_zero, List.setIfInBounds_toArray, List.set_cons_zero, List.set_cons_succ]))
              refine atIo ?_
              refine wpAnyH_ready (rs := [7, 12]) (by kernel_rfl) (by simp) (AllReadyH.cons rfl (fun K hK => ?_) (AllReadyH.cons rfl (fun K hK => ?_) (AllReadyH.nil)))
              · skip
                go_simp
                refine hK.out _ _ (HA_A.out _ (b_alloc (Below.refl _ _) _)) (fun hHeld => ?_)
                clear hK K
                (try simp only [Act.put, List.getElem_toArray, List.getElem_cons_succ, List.getElem_cons_zero, List.setIfInBounds_toArray, List.set_cons_zero, List.set_cons_succ])
                refine wpAnyH_named ?_
                intro W_AB hW_AB
                have HZ_AB : Hid (Below W_A.heap.size W_A W_AB) := Lib.hid (by rw [hW_AB]; exact b_alloc (Below.refl _ _) _)
                have N_AB : W_AB.cell? ⟨W_A.heap.size, kk, none⟩ = some (.string ⟨sB.toArray⟩) := by rw [hW_AB]; exact (World.cell?_alloc_new W_A _ _ _).trans Hext_tab.out
                have L_AB : W_A.heap.size < W_AB.heap.size := by rw [hW_AB]; simp
                have HB_AB : Hid (∀ w', Below W_AB.heap.size W_AB w' → w'.cell? ⟨W_A.heap.size, kk, none⟩ = some (.string ⟨sB.toArray⟩)) := Lib.hid (fun w' hb => ((bcell hb).1 _ _ L_AB).trans N_AB)
                have HA_AB := Lib.hid (fun w' (hb : Below W_AB.heap.size W_AB w') => HA_A.out w' (b_call HZ_AB.out hb))
                clear hW_AB N_AB L_AB
                refine wpAnyH_switch (S' := fun w' => (w'.cell? ⟨wr.heap.size, kk, none⟩ = some (.string ⟨sA.toArray⟩)) ∧ (w'.cell? ⟨W_A.heap.size, kk, none⟩ = some (.string ⟨sB.toArray⟩))) (fun _ h => h.1) ⟨HA_AB.out _ (Below.refl _ _), HB_AB.out _ (Below.refl _ _)⟩ (fun hHeld => ?_)
                refine atI 9 ?_
                iterate 2 (refine takeN (v := ?_) rfl (by rfl) ?_ hHeld ?_; rotate_left; (focus (intro w hSw; (try dsimp only at hSw); go_simp; try (with_reducible rfl))); (try simp only [Act.put, Nat.reduceAdd, List.getElem_toArray, List.getElem_cons_succ, List.getElem_cons_zero, List.setIfInBounds_toArray, List.set_cons_zero, List.set_cons_succ]))
                refine atIo ?_
                (refine wpAnyH_take (i := 11) (v := ?_) rfl (by kernel_rfl) (by kernel_rfl) (by kernel_rfl) (fun _ _ _ h => h) (Or.inl ⟨by rfl, ?_⟩) hHeld ?_; rotate_left; (focus (intro w hSw; (try dsimp only at hSw); go_simp; try (with_reducible rfl))); (try simp only [Act.put, List.getElem_toArray, List.getElem_cons_succ, List.getElem_cons_zero, List.setIfInBounds_toArray, List.set_cons_zero, List.set_cons_succ]))
                refine wpAnyH_ready (rs := [12]) (by kernel_rfl) (by simp) (AllReadyH.cons rfl (fun K hK => ?_) AllReadyH.nil)
                go_simp
                refine hK.out _ _ (⟨HA_AB.out _ (b_alloc (Below.refl _ _) _), HB_AB.out _ (b_alloc (Below.refl _ _) _)⟩) (fun hHeld => ?_)
                clear hK K
                (try simp only [Act.put, List.getElem_toArray, List.getElem_cons_succ, List.getElem_cons_zero, List.setIfInBounds_toArray, List.set_cons_zero, List.set_cons_succ])
                refine wpAnyH_named ?_
                intro W_ABC hW_ABC
                have HZ_ABC : Hid (Below W_AB.heap.size W_AB W_ABC) := Lib.hid (by rw [hW_ABC]; exact b_alloc (Below.refl _ _) _)
                have N_ABC : W_ABC.cell? ⟨W_AB.heap.size, kk, none⟩ = some (.string ⟨sC.toArray⟩) := by rw [hW_ABC]; exact (World.cell?_alloc_new W_AB _ _ _).trans Hpre_tab.out
                have L_ABC : W_AB.heap.size < W_ABC.heap.size := by rw [hW_ABC]; simp
                have HC_ABC : Hid (∀ w', Below W_ABC.heap.size W_ABC w' → w'.cell? ⟨W_AB.heap.size, kk, none⟩ = some (.string ⟨sC.toArray⟩)) := Lib.hid (fun w' hb => ((bcell hb).1 _ _ L_ABC).trans N_ABC)
                have HA_ABC := Lib.hid (fun w' (hb : Below W_ABC.heap.size W_ABC w') => HA_AB.out w' (b_call HZ_ABC.out hb))
                have HB_ABC := Lib.hid (fun w' (hb : Below W_ABC.heap.size W_ABC w') => HB_AB.out w' (b_call HZ_ABC.out hb))
                clear hW_ABC N_ABC L_ABC
                refine wpAnyH_switch (S' := fun w' => (w'.cell? ⟨wr.heap.size, kk, none⟩ = some (.string ⟨sA.toArray⟩)) ∧ (w'.cell? ⟨W_A.heap.size, kk, none⟩ = some (.string ⟨sB.toArray⟩)) ∧ (w'.cell? ⟨W_AB.heap.size, kk, none⟩ = some (.string ⟨sC.toArray⟩))) (fun _ h => ⟨h.1, h.2.1⟩) ⟨HA_ABC.out _ (Below.refl _ _), HB_ABC.out _ (Below.refl _ _), HC_ABC.out _ (Below.refl _ _)⟩ (fun hHeld => ?_)
                refine atI 14 ?_
                iterate 2 (refine takeN (v := ?_) rfl (by rfl) ?_ hHeld ?_; rotate_left; (focus (intro w hSw; (try dsimp only at hSw); go_simp; try (with_reducible rfl))); (try simp only [Act.put, Nat.reduceAdd, List.getElem_toArray, List.getElem_cons_succ, List.getElem_cons_zero, List.setIfInBounds_toArray, List.set_cons_zero, List.set_cons_succ]))
                refine atIo ?_
                refine atI 16 ?_
                iterate 2 (refine takeN (v := ?_) rfl (by rfl) ?_ hHeld ?_; rotate_left; (focus (intro w hSw; (try dsimp only at hSw); go_simp; try (with_reducible rfl))); (try simp only [Act.put, Nat.reduceAdd, List.getElem_toArray, List.getElem_cons_succ, List.getElem_cons_zero, List.setIfInBounds_toArray, List.set_cons_zero, List.set_cons_succ]))
                refine atIo ?_
                refine wpAnyH_done (by kernel_rfl) ?_ _
                clear hHeld
                go_wp2_with fail
                go_roundw
                case rel => exact ⟨k + 1, by omega, by first | rfl | trivial | go_num, n + 1, by omega, by first | rfl | trivial | go_num, (((x ++ sA) ++ [10]) ++ sB) ++ sC, congrArg Value.string (by rw [ba_append x sA, ba_append (x ++ sA) [10], ba_append _ sB, ba_append _ sC]), by simp only [List.length_append, List.length_cons, List.length_nil]; omega, Lib.hid (by rw [← HSA.out, ← HSB.out, ← HSC.out]; exact bln_nl HBN.out HK.out HTC.out hkk), Lib.hid (b_call (b_call (b_call HBR.out HZ_A.out) HZ_AB.out) HZ_ABC.out)⟩
                case measure => have := HK.out; simp [intOf]; omega
              · skip
                go_simp
                refine hK.out _ _ (HA_A.out _ (b_alloc (Below.refl _ _) _)) (fun hHeld => ?_)
                clear hK K
                (try simp only [Act.put, List.getElem_toArray, List.getElem_cons_succ, List.getElem_cons_zero, List.setIfInBounds_toArray, List.set_cons_zero, List.set_cons_succ])
                refine wpAnyH_named ?_
                intro W_AC hW_AC
                have HZ_AC : Hid (Below W_A.heap.size W_A W_AC) := Lib.hid (by rw [hW_AC]; exact b_alloc (Below.refl _ _) _)
                have N_AC : W_AC.cell? ⟨W_A.heap.size, kk, none⟩ = some (.string ⟨sC.toArray⟩) := by rw [hW_AC]; exact (World.cell?_alloc_new W_A _ _ _).trans Hpre_tab.out
                have L_AC : W_A.heap.size < W_AC.heap.size := by rw [hW_AC]; simp
                have HC_AC : Hid (∀ w', Below W_AC.heap.size W_AC w' → w'.cell? ⟨W_A.heap.size, kk, none⟩ = some (.string ⟨sC.toArray⟩)) := Lib.hid (fun w' hb => ((bcell hb).1 _ _ L_AC).trans N_AC)
                have HA_AC := Lib.hid (fun w' (hb : Below W_AC.heap.size W_AC w') => HA_A.out w' (b_call HZ_AC.out hb))
                clear hW_AC N_AC L_AC
                refine wpAnyH_switch (S' := fun w' => (w'.cell? ⟨wr.heap.size, kk, none⟩ = some (.string ⟨sA.toArray⟩)) ∧ (w'.cell? ⟨W_A.heap.size, kk, none⟩ = some (.string ⟨sC.toArray⟩))) (fun _ h => h.1) ⟨HA_AC.out _ (Below.refl _ _), HC_AC.out _ (Below.refl _ _)⟩ (fun hHeld => ?_)
                refine atI 14 ?_
                iterate 2 (refine takeN (v := ?_) rfl (by rfl) ?_ hHeld ?_; rotate_left; (focus (intro w hSw; (try dsimp only at hSw); go_simp; try (with_reducible rfl))); (try simp only [Act.put, Nat.reduceAdd, List.getElem_toArray, List.getElem_cons_succ, List.getElem_cons_zero, List.setIfInBounds_toArray, List.set_cons_zero, List.set_cons_succ]))
                refine atIo ?_
                refine wpAnyH_ready (rs := [7]) (by kernel_rfl) (by simp) (AllReadyH.cons rfl (fun K hK => ?_) AllReadyH.nil)
                go_simp
                refine hK.out _ _ (⟨HA_AC.out _ (b_alloc (Below.refl _ _) _), HC_AC.out _ (b_alloc (Below.refl _ _) _)⟩) (fun hHeld => ?_)
                clear hK K
                (try simp only [Act.put, List.getElem_toArray, List.getElem_cons_succ, List.getElem_cons_zero, List.setIfInBounds_toArray, List.set_cons_zero, List.set_cons_succ])
                refine wpAnyH_named ?_
                intro W_ACB hW_ACB
                have HZ_ACB : Hid (Below W_AC.heap.size W_AC W_ACB) := Lib.hid (by rw [hW_ACB]; exact b_alloc (Below.refl _ _) _)
                have N_ACB : W_ACB.cell? ⟨W_AC.heap.size, kk, none⟩ = some (.string ⟨sB.toArray⟩) := by rw [hW_ACB]; exact (World.cell?_alloc_new W_AC _ _ _).trans Hext_tab.out
                have L_ACB : W_AC.heap.size < W_ACB.heap.size := by rw [hW_ACB]; simp
                have HB_ACB : Hid (∀ w', Below W_ACB.heap.size W_ACB w' → w'.cell? ⟨W_AC.heap.size, kk, none⟩ = some (.string ⟨sB.toArray⟩)) := Lib.hid (fun w' hb => ((bcell hb).1 _ _ L_ACB).trans N_ACB)
                have HA_ACB := Lib.hid (fun w' (hb : Below W_ACB.heap.size W_ACB w') => HA_AC.out w' (b_call HZ_ACB.out hb))
                have HC_ACB := Lib.hid (fun w' (hb : Below W_ACB.heap.size W_ACB w') => HC_AC.out w' (b_call HZ_ACB.out hb))
                clear hW_ACB N_ACB L_ACB
                refine wpAnyH_switch (S' := fun w' => (w'.cell? ⟨wr.heap.size, kk, none⟩ = some (.string ⟨sA.toArray⟩)) ∧ (w'.cell? ⟨W_A.heap.size, kk, none⟩ = some (.string ⟨sC.toArray⟩)) ∧ (w'.cell? ⟨W_AC.heap.size, kk, none⟩ = some (.string ⟨sB.toArray⟩))) (fun _ h => ⟨h.1, h.2.1⟩) ⟨HA_ACB.out _ (Below.refl _ _), HC_ACB.out _ (Below.refl _ _), HB_ACB.out _ (Below.refl _ _)⟩ (fun hHeld => ?_)
                refine atI 9 ?_
                iterate 2 (refine takeN (v := ?_) rfl (by rfl) ?_ hHeld ?_; rotate_left; (focus (intro w hSw; (try dsimp only at hSw); go_simp; try (with_reducible rfl))); (try simp only [Act.put, Nat.reduceAdd, List.getElem_toArray, List.getElem_cons_succ, List.getElem_cons_zero, List.setIfInBounds_toArray, List.set_cons_zero, List.set_cons_succ]))
                refine atIo ?_
                (refine wpAnyH_take (i := 11) (v := ?_) rfl (by kernel_rfl) (by kernel_rfl) (by kernel_rfl) (fun _ _ _ h => h) (Or.inl ⟨by rfl, ?_⟩) hHeld ?_; rotate_left; (focus (intro w hSw; (try dsimp only at hSw); go_simp; try (with_reducible rfl))); (try simp only [Act.put, List.getElem_toArray, List.getElem_cons_succ, List.getElem_cons_zero, List.setIfInBounds_toArray, List.set_cons_zero, List.set_cons_succ]))
                refine atI 16 ?_
                iterate 2 (refine takeN (v := ?_) rfl (by rfl) ?_ hHeld ?_; rotate_left; (focus (intro w hSw; (try dsimp only at hSw); go_simp; try (with_reducible rfl))); (try simp only [Act.put, Nat.reduceAdd, List.getElem_toArray, List.getElem_cons_succ, List.getElem_cons_zero, List.setIfInBounds_toArray, List.set_cons_zero, List.set_cons_succ]))
                refine atIo ?_
                refine wpAnyH_done (by kernel_rfl) ?_ _
                clear hHeld
                go_wp2_with fail
                go_roundw
                case rel => exact ⟨k + 1, by omega, by first | rfl | trivial | go_num, n + 1, by omega, by first | rfl | trivial | go_num, (((x ++ sA) ++ [10]) ++ sB) ++ sC, congrArg Value.string (by rw [ba_append x sA, ba_append (x ++ sA) [10], ba_append _ sB, ba_append _ sC]), by simp only [List.length_append, List.length_cons, List.length_nil]; omega, Lib.hid (by rw [← HSA.out, ← HSB.out, ← HSC.out]; exact bln_nl HBN.out HK.out HTC.out hkk), Lib.hid (b_call (b_call (b_call HBR.out HZ_A.out) HZ_AC.out) HZ_ACB.out)⟩
                case measure => have := HK.out; simp [intOf]; omega
            · skip
              go_simp
              refine hK.out _ _ (trivial) (fun hHeld => ?_)
              clear hK K
              (try simp only [Act.put, List.getElem_toArray, List.getElem_cons_succ, List.getElem_cons_zero, List.setIfInBounds_toArray, List.set_cons_zero, List.set_cons_succ])
              refine wpAnyH_named ?_
              intro W_B hW_B
              have HZ_B : Hid (Below wr.heap.size wr W_B) := Lib.hid (by rw [hW_B]; exact b_alloc (b_drew (Below.refl _ _)) _)
              have N_B : W_B.cell? ⟨wr.heap.size, kk, none⟩ = some (.string ⟨sB.toArray⟩) := by rw [hW_B]; exact (World.cell?_alloc_new wr.drew _ _ _).trans Hext_tab.out
              have L_B : wr.heap.size < W_B.heap.size := by rw [hW_B]; simp
              have HB_B : Hid (∀ w', Below W_B.heap.size W_B w' → w'.cell? ⟨wr.heap.size, kk, none⟩ = some (.string ⟨sB.toArray⟩)) := Lib.hid (fun w' hb => ((bcell hb).1 _ _ L_B).trans N_B)
              clear hW_B N_B L_B
              refine wpAnyH_switch (S' := fun w' => w'.cell? ⟨wr.heap.size, kk, none⟩ = some (.string ⟨sB.toArray⟩)) (fun _ h => trivial) (HB_B.out _ (Below.refl _ _)) (fun hHeld => ?_)
              refine atI 9 ?_
              iterate 2 (refine takeN (v := ?_) rfl (by rfl) ?_ hHeld ?_; rotate_left; (focus (intro w hSw; (try dsimp only at hSw); go_simp; try (with_reducible rfl))); (try simp only [Act.put, Nat.reduceAdd, List.getElem_toArray, List.getElem_cons_succ, List.getElem_cons_zero, List.setIfInBounds_toArray, List.set_cons_zero, List.set_cons_succ]))
              refine atIo ?_
              refine wpAnyH_ready (rs := [1, 12]) (by kernel_rfl) (by simp) (AllReadyH.cons rfl (fun K hK => ?_) (AllReadyH.cons rfl (fun K hK => ?_) (AllReadyH.nil)))
              · skip
                go_simp
                refine hK.out _ _ (HB_B.out _ (b_alloc (Below.refl _ _) _)) (fun hHeld => ?_)
                clear hK K
                (try simp only [Act.put, List.getElem_toArray, List.getElem_cons_succ, List.getElem_cons_zero, List.setIfInBounds_toArray, List.set_cons_zero, List.set_cons_succ])
                refine wpAnyH_named ?_
                intro W_BA hW_BA
                have HZ_BA : Hid (Below W_B.heap.size W_B W_BA) := Lib.hid (by rw [hW_BA]; exact b_alloc (Below.refl _ _) _)
                have N_BA : W_BA.cell? ⟨W_B.heap.size, kk, none⟩ = some (.string ⟨sA.toArray⟩) := by rw [hW_BA]; exact (World.cell?_alloc_new W_B _ _ _).trans Hsfx_tab.out
                have L_BA : W_B.heap.size < W_BA.heap.size := by rw [hW_BA]; simp
                have HA_BA : Hid (∀ w', Below W_BA.heap.size W_BA w' → w'.cell? ⟨W_B.heap.size, kk, none⟩ = some (.string ⟨sA.toArray⟩)) := Lib.hid (fun w' hb => ((bcell hb).1 _ _ L_BA).trans N_BA)
                have HB_BA := Lib.hid (fun w' (hb : Below W_BA.heap.size W_BA w') => HB_B.out w' (b_call HZ_BA.out hb))
                clear hW_BA N_BA L_BA
                refine wpAnyH_switch (S' := fun w' => (w'.cell? ⟨wr.heap.size, kk, none⟩ = some (.string ⟨sB.toArray⟩)) ∧ (w'.cell? ⟨W_B.heap.size, kk, none⟩ = some (.string ⟨sA.toArray⟩))) (fun _ h => h.1) ⟨HB_BA.out _ (Below.refl _ _), HA_BA.out _ (Below.refl _ _)⟩ (fun hHeld => ?_)
                refine atI 3 ?_
                iterate 2 (refine takeN (v := ?_) rfl (by rfl) ?_ hHeld ?_; rotate_left; (focus (intro w hSw; (try dsimp only at hSw); go_simp; try (with_reducible rfl))); (try simp only [Act.put, Nat.reduceAdd, List.getElem_toArray, List.getElem_cons_succ, List.getElem_cons_zero, List.setIfInBounds_toArray, List.set_cons_zero, List.set_cons_succ]))
                refine atIo ?_
                refine atI 5 ?_
                iterate 2 (refine takeN (v := ?_) rfl (by rfl) ?_ hHeld ?_; rotate_left; (focus (intro w hSw; (try dsimp only at hSw); go_simp; try (with_reducible rfl))); (try simp only [Act.put, Nat.reduceAdd, List.getElem_toArray, List.getElem_cons_succ, List.getElem_cons_zero, List.setIfInBounds_toArray, List.set_cons_zero, List.set_cons_succ]))
                refine atIo ?_
                (refine wpAnyH_take (i := 11) (v := ?_) rfl (by kernel_rfl) (by kernel_rfl) (by kernel_rfl) (fun _ _ _ h => h) (Or.inl ⟨by rfl, ?_⟩) hHeld ?_; rotate_left; (focus (intro w hSw; (try dsimp only at hSw); go_simp; try (with_reducible rfl))); (try simp only [Act.put, List.getElem_toArray, List.getElem_cons_succ, List.getElem_cons_zero, List.setIfInBounds_toArray, List.set_cons_zero, List.set_cons_succ]))
                refine wpAnyH_ready (rs := [12]) (by kernel_rfl) (by simp) (AllReadyH.cons rfl (fun K hK => ?_) AllReadyH.nil)
                go_simp
                refine hK.out _ _ (⟨HB_BA.out _ (b_alloc (Below.refl _ _) _), HA_BA.out _ (b_alloc (Below.refl _ _) _)⟩) (fun hHeld => ?_)
                clear hK K
                (try simp only [Act.put, List.getElem_toArray, List.getElem_cons_succ, List.getElem_cons_zero, List.setIfInBounds_toArray, List.set_cons_zero, List.set_cons_succ])
                refine wpAnyH_named ?_
                intro W_BAC hW_BAC
                have HZ_BAC : Hid (Below W_BA.heap.size W_BA W_BAC) := Lib.hid (by rw [hW_BAC]; exact b_alloc (Below.refl _ _) _)
                have N_BAC : W_BAC.cell? ⟨W_BA.heap.size, kk, none⟩ = some (.string ⟨sC.toArray⟩) := by rw [hW_BAC]; exact (World.cell?_alloc_new W_BA _ _ _).trans Hpre_tab.out
                have L_BAC : W_BA.heap.size < W_BAC.heap.size := by rw [hW_BAC]; simp
                have HC_BAC : Hid (∀ w', Below W_BAC.heap.size W_BAC w' → w'.cell? ⟨W_BA.heap.size, kk, none⟩ = some (.string ⟨sC.toArray⟩)) := Lib.hid (fun w' hb => ((bcell hb).1 _ _ L_BAC).trans N_BAC)
                have HB_BAC := Lib.hid (fun w' (hb : Below W_BAC.heap.size W_BAC w') => HB_BA.out w' (b_call HZ_BAC.out hb))
                have HA_BAC := Lib.hid (fun w' (hb : Below W_BAC.heap.size W_BAC w') => HA_BA.out w' (b_call HZ_BAC.out hb))
                clear hW_BAC N_BAC L_BAC
                refine wpAnyH_switch (S' := fun w' => (w'.cell? ⟨wr.heap.size, kk, none⟩ = some (.string ⟨sB.toArray⟩)) ∧ (w'.cell? ⟨W_B.heap.size, kk, none⟩ = some (.string ⟨sA.toArray⟩)) ∧ (w'.cell? ⟨W_BA.heap.size, kk, none⟩ = some (.string ⟨sC.toArray⟩))) (fun _ h => ⟨h.1, h.2.1⟩) ⟨HB_BAC.out _ (Below.refl _ _), HA_BAC.out _ (Below.refl _ _), HC_BAC.out _ (Below.refl _ _)⟩ (fun hHeld => ?_)
                refine atI 14 ?_
                iterate 2 (refine takeN (v := ?_) rfl (by rfl) ?_ hHeld ?_; rotate_left; (focus (intro w hSw; (try dsimp only at hSw); go_simp; try (with_reducible rfl))); (try simp only [Act.put, Nat.reduceAdd, List.getElem_toArray, List.getElem_cons_succ, List.getElem_cons_zero, List.setIfInBounds_toArray, List.set_cons_zero, List.set_cons_succ]))
                refine atIo ?_
                refine atI 16 ?_
                iterate 2 (refine takeN (v := ?_) rfl (by rfl) ?_ hHeld ?_; rotate_left; (focus (intro w hSw; (try dsimp only at hSw); go_simp; try (with_reducible rfl))); (try simp only [Act.put, Nat.reduceAdd, List.getElem_toArray, List.getElem_cons_succ, List.getElem_cons_zero, List.setIfInBounds_toArray, List.set_cons_zero, List.set_cons_succ]))
                refine atIo ?_
                refine wpAnyH_done (by kernel_rfl) ?_ _
                clear hHeld
                go_wp2_with fail
                go_roundw
                case rel => exact ⟨k + 1, by omega, by first | rfl | trivial | go_num, n + 1, by omega, by first | rfl | trivial | go_num, (((x ++ sA) ++ [10]) ++ sB) ++ sC, congrArg Value.string (by rw [ba_append x sA, ba_append (x ++ sA) [10], ba_append _ sB, ba_append _ sC]), by simp only [List.length_append, List.length_cons, List.length_nil]; omega, Lib.hid (by rw [← HSA.out, ← HSB.out, ← HSC.out]; exact bln_nl HBN.out HK.out HTC.out hkk), Lib.hid (b_call (b_call (b_call HBR.out HZ_B.out) HZ_BA.out) HZ_BAC.out)⟩
                case measure => have := HK.out; simp [intOf]; omega
              · skip
                go_simp
                refine hK.out _ _ (HB_B.out _ (b_alloc (Below.refl _ _) _)) (fun hHeld => ?_)
                clear hK K
                (try simp only [Act.put, List.getElem_toArray, List.getElem_cons_succ, List.getElem_cons_zero, List.setIfInBounds_toArray, List.set_cons_zero, List.set_cons_succ])
                refine wpAnyH_named ?_
                intro W_BC hW_BC
                have HZ_BC : Hid (Below W_B.heap.size W_B W_BC) := Lib.hid (by rw [hW_BC]; exact b_alloc (Below.refl _ _) _)
                have N_BC : W_BC.cell? ⟨W_B.heap.size, kk, none⟩ = some (.string ⟨sC.toArray⟩) := by rw [hW_BC]; exact (World.cell?_alloc_new W_B _ _ _).trans Hpre_tab.out
                have L_BC : W_B.heap.size < W_BC.heap.size := by rw [hW_BC]; simp
                have HC_BC : Hid (∀ w', Below W_BC.heap.size W_BC w' → w'.cell? ⟨W_B.heap.size, kk, none⟩ = some (.string ⟨sC.toArray⟩)) := Lib.hid (fun w' hb => ((bcell hb).1 _ _ L_BC).trans N_BC)
                have HB_BC := Lib.hid (fun w' (hb : Below W_BC.heap.size W_BC w') => HB_B.out w' (b_call HZ_BC.out hb))
                clear hW_BC N_BC L_BC
                refine wpAnyH_switch (S' := fun w' => (w'.cell? ⟨wr.heap.size, kk, none⟩ = some (.string ⟨sB.toArray⟩)) ∧ (w'.cell? ⟨W_B.heap.size, kk, none⟩ = some (.string ⟨sC.toArray⟩))) (fun _ h => h.1) ⟨HB_BC.out _ (Below.refl _ _), HC_BC.out _ (Below.refl _ _)⟩ (fun hHeld => ?_)
                refine atI 14 ?_
                iterate 2 (refine takeN (v := ?_) rfl (by rfl) ?_ hHeld ?_; rotate_left; (focus (intro w hSw; (try dsimp only at hSw); go_simp; try (with_reducible rfl))); (try simp only [Act.put, Nat.reduceAdd, List.getElem_toArray, List.getElem_cons_succ, List.getElem_cons_zero, List.setIfInBounds_toArray, List.set_cons_zero, List.set_cons_succ]))
                refine atIo ?_
                refine wpAnyH_ready (rs := [1]) (by kernel_rfl) (by simp) (AllReadyH.cons rfl (fun K hK => ?_) AllReadyH.nil)
                go_simp
                refine hK.out _ _ (⟨HB_BC.out _ (b_alloc (Below.refl _ _) _), HC_BC.out _ (b_alloc (Below.refl _ _) _)⟩) (fun hHeld => ?_)
                clear hK K
                (try simp only [Act.put, List.getElem_toArray, List.getElem_cons_succ, List.getElem_cons_zero, List.setIfInBounds_toArray, List.set_cons_zero, List.set_cons_succ])
                refine wpAnyH_named ?_
                intro W_BCA hW_BCA
                have HZ_BCA : Hid (Below W_BC.heap.size W_BC W_BCA) := Lib.hid (by rw [hW_BCA]; exact b_alloc (Below.refl _ _) _)
                have N_BCA : W_BCA.cell? ⟨W_BC.heap.size, kk, none⟩ = some (.string ⟨sA.toArray⟩) := by rw [hW_BCA]; exact (World.cell?_alloc_new W_BC _ _ _).trans Hsfx_tab.out
                have L_BCA : W_BC.heap.size < W_BCA.heap.size := by rw [hW_BCA]; simp
                have HA_BCA : Hid (∀ w', Below W_BCA.heap.size W_BCA w' → w'.cell? ⟨W_BC.heap.size, kk, none⟩ = some (.string ⟨sA.toArray⟩)) := Lib.hid (fun w' hb => ((bcell hb).1 _ _ L_BCA).trans N_BCA)
                have HB_BCA := Lib.hid (fun w' (hb : Below W_BCA.heap.size W_BCA w') => HB_BC.out w' (b_call HZ_BCA.out hb))
                have HC_BCA := Lib.hid (fun w' (hb : Below W_BCA.heap.size W_BCA w') => HC_BC.out w' (b_call HZ_BCA.out hb))
                clear hW_BCA N_BCA L_BCA
                refine wpAnyH_switch (S' := fun w' => (w'.cell? ⟨wr.heap.size, kk, none⟩ = some (.string ⟨sB.toArray⟩)) ∧ (w'.cell? ⟨W_B.heap.size, kk, none⟩ = some (.string ⟨sC.toArray⟩)) ∧ (w'.cell? ⟨W_BC.heap.size, kk, none⟩ = some (.string ⟨sA.toArray⟩))) (fun _ h => ⟨h.1, h.2.1⟩) ⟨HB_BCA.out _ (Below.refl _ _), HC_BCA.out _ (Below.refl _ _), HA_BCA.out _ (Below.refl _ _)⟩ (fun hHeld => ?_)
                refine atI 3 ?_
                iterate 2 (refine takeN (v := ?_) rfl (by rfl) ?_ hHeld ?_; rotate_left; (focus (intro w hSw; (try dsimp only at hSw); go_simp; try (with_reducible rfl))); (try simp only [Act.put, Nat.reduceAdd, List.getElem_toArray, List.getElem_cons_succ, List.getElem_cons_zero, List.setIfInBounds_toArray, List.set_cons_zero, List.set_cons_succ]))
                refine atIo ?_
                refine atI 5 ?_
                iterate 2 (refine takeN (v := ?_) rfl (by rfl) ?_ hHeld ?_; rotate_left; (focus (intro w hSw; (try dsimp only at hSw); go_simp; try (with_reducible rfl))); (try simp only [Act.put, Nat.reduceAdd, List.getElem_toArray, List.getElem_cons_succ, List.getElem_cons_zero, List.setIfInBounds_toArray, List.set_cons_zero, List.set_cons_succ]))
                refine atIo ?_
                (refine wpAnyH_take (i := 11) (v := ?_) rfl (by kernel_rfl) (by kernel_rfl) (by kernel_rfl) (fun _ _ _ h => h) (Or.inl ⟨by rfl, ?_⟩) hHeld ?_; rotate_left; (focus (intro w hSw; (try dsimp only at hSw); go_simp; try (with_reducible rfl))); (try simp only [Act.put, List.getElem_toArray, List.getElem_cons_succ, List.getElem_cons_zero, List.setIfInBounds_toArray, List.set_cons_zero, List.set_cons_succ]))
                refine atI 16 ?_
                iterate 2 (refine takeN (v := ?_) rfl (by rfl) ?_ hHeld ?_; rotate_left; (focus (intro w hSw; (try dsimp only at hSw); go_simp; try (with_reducible rfl))); (try simp only [Act.put, Nat.reduceAdd, List.getElem_toArray, List.getElem_cons_succ, List.getElem_cons_zero, List.setIfInBounds_toArray, List.set_cons_zero, List.set_cons_succ]))
                refine atIo ?_
                refine wpAnyH_done (by kernel_rfl) ?_ _
                clear hHeld
                go_wp2_with fail
                go_roundw
                case rel => exact ⟨k + 1, by omega, by first | rfl | trivial | go_num, n + 1, by omega, by first | rfl | trivial | go_num, (((x ++ sA) ++ [10]) ++ sB) ++ sC, congrArg Value.string (by rw [ba_append x sA, ba_append (x ++ sA) [10], ba_append _ sB, ba_append _ sC]), by simp only [List.length_append, List.length_cons, List.length_nil]; omega, Lib.hid (by rw [← HSA.out, ← HSB.out, ← HSC.out]; exact bln_nl HBN.out HK.out HTC.out hkk), Lib.hid (b_call (b_call (b_call HBR.out HZ_B.out) HZ_BC.out) HZ_BCA.out)⟩
                case measure => have := HK.out; simp [intOf]; omega
            · skip
              go_simp
              refine hK.out _ _ (trivial) (fun hHeld => ?_)
              clear hK K
              (try simp only [Act.put, List.getElem_toArray, List.getElem_cons_succ, List.getElem_cons_zero, List.setIfInBounds_toArray, List.set_cons_zero, List.set_cons_succ])
              refine wpAnyH_named ?_
              intro W_C hW_C
              have HZ_C : Hid (Below wr.heap.size wr W_C) := Lib.hid (by rw [hW_C]; exact b_alloc (b_drew (Below.refl _ _)) _)
              have N_C : W_C.cell? ⟨wr.heap.size, kk, none⟩ = some (.string ⟨sC.toArray⟩) := by rw [hW_C]; exact (World.cell?_alloc_new wr.drew _ _ _).trans Hpre_tab.out
              have L_C : wr.heap.size < W_C.heap.size := by rw [hW_C]; simp
              have HC_C : Hid (∀ w', Below W_C.heap.size W_C w' → w'.cell? ⟨wr.heap.size, kk, none⟩ = some (.string ⟨sC.toArray⟩)) := Lib.hid (fun w' hb => ((bcell hb).1 _ _ L_C).trans N_C)
              clear hW_C N_C L_C
              refine wpAnyH_switch (S' := fun w' => w'.cell? ⟨wr.heap.size, kk, none⟩ = some (.string ⟨sC.toArray⟩)) (fun _ h => trivial) (HC_C.out _ (Below.refl _ _)) (fun hHeld => ?_)
              refine atI 14 ?_
              iterate 2 (refine takeN (v := ?_) rfl (by rfl) ?_ hHeld ?_; rotate_left; (focus (intro w hSw; (try dsimp only at hSw); go_simp; try (with_reducible rfl))); (try simp only [Act.put, Nat.reduceAdd, List.getElem_toArray, List.getElem_cons_succ, List.getElem_cons_zero, List.setIfInBounds_toArray, List.set_cons_zero, List.set_cons_succ]))
              refine atIo ?_
              refine wpAnyH_ready (rs := [1, 7]) (by kernel_rfl) (by simp) (AllReadyH.cons rfl (fun K hK => ?_) (AllReadyH.cons rfl (fun K hK => ?_) (AllReadyH.nil)))
              · skip
                go_simp
                refine hK.out _ _ (HC_C.out _ (b_alloc (Below.refl _ _) _)) (fun hHeld => ?_)
                clear hK K
                (try simp only [Act.put, List.getElem_toArray, List.getElem_cons_succ, List.getElem_cons_zero, List.setIfInBounds_toArray, List.set_cons_zero, List.set_cons_succ])
                refine wpAnyH_named ?_
                intro W_CA hW_CA
                have HZ_CA : Hid (Below W_C.heap.size W_C W_CA) := Lib.hid (by rw [hW_CA]; exact b_alloc (Below.refl _ _) _)
                have N_CA : W_CA.cell? ⟨W_C.heap.size, kk, none⟩ = some (.string ⟨sA.toArray⟩) := by rw [hW_CA]; exact (World.cell?_alloc_new W_C _ _ _).trans Hsfx_tab.out
                have L_CA : W_C.heap.size < W_CA.heap.size := by rw [hW_CA]; simp
                have HA_CA : Hid (∀ w', Below W_CA.heap.size W_CA w' → w'.cell? ⟨W_C.heap.size, kk, none⟩ = some (.string ⟨sA.toArray⟩)) := Lib.hid (fun w' hb => ((bcell hb).1 _ _ L_CA).trans N_CA)
                have HC_CA := Lib.hid (fun w' (hb : Below W_CA.heap.size W_CA w') => HC_C.out w' (b_call HZ_CA.out hb))
                clear hW_CA N_CA L_CA
                refine wpAnyH_switch (S' := fun w' => (w'.cell? ⟨wr.heap.size, kk, none⟩ = some (.string ⟨sC.toArray⟩)) ∧ (w'.cell? ⟨W_C.heap.size, kk, none⟩ = some (.string ⟨sA.toArray⟩))) (fun _ h => h.1) ⟨HC_CA.out _ (Below.refl _ _), HA_CA.out _ (Below.refl _ _)⟩ (fun hHeld => ?_)
                refine atI 3 ?_
                iterate 2 (refine takeN (v := ?_) rfl (by rfl) ?_ hHeld ?_; rotate_left; (focus (intro w hSw; (try dsimp only at hSw); go_simp; try (with_reducible rfl))); (try simp only [Act.put, Nat.reduceAdd, List.getElem_toArray, List.getElem_cons_succ, List.getElem_cons_zero, List.setIfInBounds_toArray, List.set_cons_zero, List.set_cons_succ]))
                refine atIo ?_
                refine atI 5 ?_
                iterate 2 (refine takeN (v := ?_) rfl (by rfl) ?_ hHeld ?_; rotate_left; (focus (intro w hSw; (try dsimp only at hSw); go_simp; try (with_reducible rfl))); (try simp only [Act.put, Nat.reduceAdd, List.getElem_toArray, List.getElem_cons_succ, List.getElem_cons_zero, List.setIfInBounds_toArray, List.set_cons_zero, List.set_cons_succ]))
                refine atIo ?_
                refine wpAnyH_ready (rs := [7]) (by kernel_rfl) (by simp) (AllReadyH.cons rfl (fun K hK => ?_) AllReadyH.nil)
                go_simp
                refine hK.out _ _ (⟨HC_CA.out _ (b_alloc (Below.refl _ _) _), HA_CA.out _ (b_alloc (Below.refl _ _) _)⟩) (fun hHeld => ?_)
                clear hK K
                (try simp only [Act.put, List.getElem_toArray, List.getElem_cons_succ, List.getElem_cons_zero, List.setIfInBounds_toArray, List.set_cons_zero, List.set_cons_succ])
                refine wpAnyH_named ?_
                intro W_CAB hW_CAB
                have HZ_CAB : Hid (Below W_CA.heap.size W_CA W_CAB) := Lib.hid (by rw [hW_CAB]; exact b_alloc (Below.refl _ _) _)
                have N_CAB : W_CAB.cell? ⟨W_CA.heap.size, kk, none⟩ = some (.string ⟨sB.toArray⟩) := by rw [hW_CAB]; exact (World.cell?_alloc_new W_CA _ _ _).trans Hext_tab.out
                have L_CAB : W_CA.heap.size < W_CAB.heap.size := by rw [hW_CAB]; simp
                have HB_CAB : Hid (∀ w', Below W_CAB.heap.size W_CAB w' → w'.cell? ⟨W_CA.heap.size, kk, none⟩ = some (.string ⟨sB.toArray⟩)) := Lib.hid (fun w' hb => ((bcell hb).1 _ _ L_CAB).trans N_CAB)
                have HC_CAB := Lib.hid (fun w' (hb : Below W_CAB.heap.size W_CAB w') => HC_CA.out w' (b_call HZ_CAB.out hb))
                have HA_CAB := Lib.hid (fun w' (hb : Below W_CAB.heap.size W_CAB w') => HA_CA.out w' (b_call HZ_CAB.out hb))
                clear hW_CAB N_CAB L_CAB
                refine wpAnyH_switch (S' := fun w' => (w'.cell? ⟨wr.heap.size, kk, none⟩ = some (.string ⟨sC.toArray⟩)) ∧ (w'.cell? ⟨W_C.heap.size, kk, none⟩ = some (.string ⟨sA.toArray⟩)) ∧ (w'.cell? ⟨W_CA.heap.size, kk, none⟩ = some (.string ⟨sB.toArray⟩))) (fun _ h => ⟨h.1, h.2.1⟩) ⟨HC_CAB.out _ (Below.refl _ _), HA_CAB.out _ (Below.refl _ _), HB_CAB.out _ (Below.refl _ _)⟩ (fun hHeld => ?_)
                refine atI 9 ?_
                iterate 2 (refine takeN (v := ?_) rfl (by rfl) ?_ hHeld ?_; rotate_left; (focus (intro w hSw; (try dsimp only at hSw); go_simp; try (with_reducible rfl))); (try simp only [Act.put, Nat.reduceAdd, List.getElem_toArray, List.getElem_cons_succ, List.getElem_cons_zero, List.setIfInBounds_toArray, List.set_cons_zero, List.set_cons_succ]))
                refine atIo ?_
                (refine wpAnyH_take (i := 11) (v := ?_) rfl (by kernel_rfl) (by kernel_rfl) (by kernel_rfl) (fun _ _ _ h => h) (Or.inl ⟨by rfl, ?_⟩) hHeld ?_; rotate_left; (focus (intro w hSw; (try dsimp only at hSw); go_simp; try (with_reducible rfl))); (try simp only [Act.put, List.getElem_toArray, List.getElem_cons_succ, List.getElem_cons_zero, List.setIfInBounds_toArray, List.set_cons_zero, List.set_cons_succ]))
                refine atI 16 ?_
                iterate 2 (refine takeN (v := ?_) rfl (by rfl) ?_ hHeld ?_; rotate_left; (focus (intro w hSw; (try dsimp only at hSw); go_simp; try (with_reducible rfl))); (try simp only [Act.put, Nat.reduceAdd, List.getElem_toArray, List.getElem_cons_succ, List.getElem_cons_zero, List.setIfInBounds_toArray, List.set_cons_zero, List.set_cons_succ]))
                refine atIo ?_
                refine wpAnyH_done (by kernel_rfl) ?_ _
                clear hHeld
                go_wp2_with fail
                go_roundw
                case rel => exact ⟨k + 1, by omega, by first | rfl | trivial | go_num, n + 1, by omega, by first | rfl | trivial | go_num, (((x ++ sA) ++ [10]) ++ sB) ++ sC, congrArg Value.string (by rw [ba_append x sA, ba_append (x ++ sA) [10], ba_append _ sB, ba_append _ sC]), by simp only [List.length_append, List.length_cons, List.length_nil]; omega, Lib.hid (by rw [← HSA.out, ← HSB.out, ← HSC.out]; exact bln_nl HBN.out HK.out HTC.out hkk), Lib.hid (b_call (b_call (b_call HBR.out HZ_C.out) HZ_CA.out) HZ_CAB.out)⟩
                case measure => have := HK.out; simp [intOf]; omega
              · skip
                go_simp
                refine hK.out _ _ (HC_C.out _ (b_alloc (Below.refl _ _) _)) (fun hHeld => ?_)
                clear hK K
                (try simp only [Act.put, List.getElem_toArray, List.getElem_cons_succ, List.getElem_cons_zero, List.setIfInBounds_toArray, List.set_cons_zero, List.set_cons_succ])
                refine wpAnyH_named ?_
                intro W_CB hW_CB
                have HZ_CB : Hid (Below W_C.heap.size W_C W_CB) := Lib.hid (by rw [hW_CB]; exact b_alloc (Below.refl _ _) _)
                have N_CB : W_CB.cell? ⟨W_C.heap.size, kk, none⟩ = some (.string ⟨sB.toArray⟩) := by rw [hW_CB]; exact (World.cell?_alloc_new W_C _ _ _).trans Hext_tab.out
                have L_CB : W_C.heap.size < W_CB.heap.size := by rw [hW_CB]; simp
                have HB_CB : Hid (∀ w', Below W_CB.heap.size W_CB w' → w'.cell? ⟨W_C.heap.size, kk, none⟩ = some (.string ⟨sB.toArray⟩)) := Lib.hid (fun w' hb => ((bcell hb).1 _ _ L_CB).trans N_CB)
                have HC_CB := Lib.hid (fun w' (hb : Below W_CB.heap.size W_CB w') => HC_C.out w' (b_call HZ_CB.out hb))
                clear hW_CB N_CB L_CB
                refine wpAnyH_switch (S' := fun w' => (w'.cell? ⟨wr.heap.size, kk, none⟩ = some (.string ⟨sC.toArray⟩)) ∧ (w'.cell? ⟨W_C.heap.size, kk, none⟩ = some (.string ⟨sB.toArray⟩))) (fun _ h => h.1) ⟨HC_CB.out _ (Below.refl _ _), HB_CB.out _ (Below.refl _ _)⟩ (fun hHeld => ?_)
                refine atI 9 ?_
                iterate 2 (refine takeN (v := ?_) rfl (by rfl) ?_ hHeld ?_; rotate_left; (focus (intro w hSw; (try dsimp only at hSw); go_simp; try (with_reducible rfl))); (try simp only [Act.put, Nat.reduceAdd, List.getElem_toArray, List.getElem_cons_succ, List.getElem_cons_zero, List.setIfInBounds_toArray, List.set_cons_zero, List.set_cons_succ]))
                refine atIo ?_
                refine wpAnyH_ready (rs := [1]) (by kernel_rfl) (by simp) (AllReadyH.cons rfl (fun K hK => ?_) AllReadyH.nil)
                go_simp
                refine hK.out _ _ (⟨HC_CB.out _ (b_alloc (Below.refl _ _) _), HB_CB.out _ (b_alloc (Below.refl _ _) _)⟩) (fun hHeld => ?_)
                clear hK K
                (try simp only [Act.put, List.getElem_toArray, List.getElem_cons_succ, List.getElem_cons_zero, List.setIfInBounds_toArray, List.set_cons_zero, List.set_cons_succ])
                refine wpAnyH_named ?_
                intro W_CBA hW_CBA
                have HZ_CBA : Hid (Below W_CB.heap.size W_CB W_CBA) := Lib.hid (by rw [hW_CBA]; exact b_alloc (Below.refl _ _) _)
                have N_CBA : W_CBA.cell? ⟨W_CB.heap.size, kk, none⟩ = some (.string ⟨sA.toArray⟩) := by rw [hW_CBA]; exact (World.cell?_alloc_new W_CB _ _ _).trans Hsfx_tab.out
                have L_CBA : W_CB.heap.size < W_CBA.heap.size := by rw [hW_CBA]; simp
                have HA_CBA : Hid (∀ w', Below W_CBA.heap.size W_CBA w' → w'.cell? ⟨W_CB.heap.size, kk, none⟩ = some (.string ⟨sA.toArray⟩)) := Lib.hid (fun w' hb => ((bcell hb).1 _ _ L_CBA).trans N_CBA)
                have HC_CBA := Lib.hid (fun w' (hb : Below W_CBA.heap.size W_CBA w') => HC_CB.out w' (b_call HZ_CBA.out hb))
                have HB_CBA := Lib.hid (fun w' (hb : Below W_CBA.heap.size W_CBA w') => HB_CB.out w' (b_call HZ_CBA.out hb))
                clear hW_CBA N_CBA L_CBA
                refine wpAnyH_switch (S' := fun w' => (w'.cell? ⟨wr.heap.size, kk, none⟩ = some (.string ⟨sC.toArray⟩)) ∧ (w'.cell? ⟨W_C.heap.size, kk, none⟩ = some (.string ⟨sB.toArray⟩)) ∧ (w'.cell? ⟨W_CB.heap.size, kk, none⟩ = some (.string ⟨sA.toArray⟩))) (fun _ h => ⟨h.1, h.2.1⟩) ⟨HC_CBA.out _ (Below.refl _ _), HB_CBA.out _ (Below.refl _ _), HA_CBA.out _ (Below.refl _ _)⟩ (fun hHeld => ?_)
                refine atI 3 ?_
                iterate 2 (refine takeN (v := ?_) rfl (by rfl) ?_ hHeld ?_; rotate_left; (focus (intro w hSw; (try dsimp only at hSw); go_simp; try (with_reducible rfl))); (try simp only [Act.put, Nat.reduceAdd, List.getElem_toArray, List.getElem_cons_succ, List.getElem_cons_zero, List.setIfInBounds_toArray, List.set_cons_zero, List.set_cons_succ]))
                refine atIo ?_
                refine atI 5 ?_
                iterate 2 (refine takeN (v := ?_) rfl (by rfl) ?_ hHeld ?_; rotate_left; (focus (intro w hSw; (try dsimp only at hSw); go_simp; try (with_reducible rfl))); (try simp only [Act.put, Nat.reduceAdd, List.getElem_toArray, List.getElem_cons_succ, List.getElem_cons_zero, List.setIfInBounds_toArray, List.set_cons_zero, List.set_cons_succ]))
                refine atIo ?_
                (refine wpAnyH_take (i := 11) (v := ?_) rfl (by kernel_rfl) (by kernel_rfl) (by kernel_rfl) (fun _ _ _ h => h) (Or.inl ⟨by rfl, ?_⟩) hHeld ?_; rotate_left; (focus (intro w hSw; (try dsimp only at hSw); go_simp; try (with_reducible rfl))); (try simp only [Act.put, List.getElem_toArray, List.getElem_cons_succ, List.getElem_cons_zero, List.setIfInBounds_toArray, List.set_cons_zero, List.set_cons_succ]))
                refine atI 16 ?_
                iterate 2 (refine takeN (v := ?_) rfl (by rfl) ?_ hHeld ?_; rotate_left; (focus (intro w hSw; (try dsimp only at hSw); go_simp; try (with_reducible rfl))); (try simp only [Act.put, Nat.reduceAdd, List.getElem_toArray, List.getElem_cons_succ, List.getElem_cons_zero, List.setIfInBounds_toArray, List.set_cons_zero, List.set_cons_succ]))
                refine atIo ?_
                refine wpAnyH_done (by kernel_rfl) ?_ _
                clear hHeld
                go_wp2_with fail
                go_roundw
                case rel => exact ⟨k + 1, by omega, by first | rfl | trivial | go_num, n + 1, by omega, by first | rfl | trivial | go_num, (((x ++ sA) ++ [10]) ++ sB) ++ sC, congrArg Value.string (by rw [ba_append x sA, ba_append (x ++ sA) [10], ba_append _ sB, ba_append _ sC]), by simp only [List.length_append, List.length_cons, List.length_nil]; omega, Lib.hid (by rw [← HSA.out, ← HSB.out, ← HSC.out]; exact bln_nl HBN.out HK.out HTC.out hkk), Lib.hid (b_call (b_call (b_call HBR.out HZ_C.out) HZ_CB.out) HZ_CBA.out)⟩
                case measure => have := HK.out; simp [intOf]; omega
          -- E16
        · have h10i : ((c.toNat : Int) != 10) = true := by
            have : c.toNat ≠ 10 := fun q => h10 (UInt8.toNat_inj.1 q)
            simp; omega
          have H10 := Lib.hid h10
          clear h10
          go_wp2_with fail
          go_roundw
          case rel => exact ⟨k + 1, by omega, by first | rfl | trivial | go_num, n, by omega, rfl, x ++ [c], congrArg Value.string (by rw [bext T k HK.out]; exact (congrArg (fun z => (⟨x.toArray⟩ : ByteArray) ++ ⟨[z].toArray⟩) HTC.out).trans (ba_append x [c])), by simp; omega, Lib.hid (bln_ch HBN.out HK.out HTC.out H10.out), HBR⟩
          case measure => have := HK.out; simp [intOf]; omega
      · have HFU : Hid (Bln T x) := Lib.hid (by have q := HBN.out; rw [List.take_of_length_le (by omega)] at q; exact q)
        have HPA := Lib.hid (aparse_any x wr (by omega) (max_below HM.out (b_call HB2.out HBR.out)))
        rw [HBL.out x HFU.out] at HPA
        unfold strV ParseEnd at HPA
        go_wp2_with fail
        refine (HPA.out).mono ?_
        rintro e w5 ⟨hb5, q, rfl, hq⟩
        obtain ⟨zu, ⟨za, zn, zc⟩, zm, ⟨va, vn, vc⟩⟩ := q
        have HQ5 := Lib.hid hq
        have HB5 := Lib.hid (b_call HBR.out hb5)
        clear hb5 hq
        unfold aggP Sl.v
        simp only
        go_upto_region 18 with fail
        refine wp_named ?_
        intro W6 hW6
        have HX6 : Hid (Blk W6 w5.heap.size [.bool zu, .slice za zn zc, .int .i64 zm, .slice va vn vc]) := Lib.hid (by rw [hW6]; exact blk_new _ _ _)
        have HB56 : Hid (Below w5.heap.size w5 W6) := Lib.hid (by rw [hW6]; exact b_alloc (Below.refl _ _) _)
        have HB6 : Hid (Below W2.heap.size W2 W6) := Lib.hid (b_call HB5.out HB56.out)
        clear hW6
        -- R18
        obtain ⟨a0, a1, a2, a3, _⟩ := blk4 HX6.out
        have HS18 : Hid (∀ w', Below W6.heap.size W6 w' → (w'.cell? ⟨w5.heap.size, 0, none⟩ = some (.bool zu) ∧ w'.cell? ⟨w5.heap.size, 1, none⟩ = some (.slice za zn zc) ∧ w'.cell? ⟨w5.heap.size, 2, none⟩ = some (.int .i64 zm) ∧ w'.cell? ⟨w5.heap.size, 3, none⟩ = some (.slice va vn vc)) ∧ (w'.cell? ⟨w.heap.size, 0, none⟩ = some (.bool qu) ∧ w'.cell? ⟨w.heap.size, 1, none⟩ = some (.slice qa qn qc) ∧ w'.cell? ⟨w.heap.size, 2, none⟩ = some (.int .i64 qm) ∧ w'.cell? ⟨w.heap.size, 3, none⟩ = some (.slice ra rn rc))) := Lib.hid (fun w' hb => by
          obtain ⟨y0, y1, y2, y3, _⟩ := blk4 (blk_below HX6.out hb)
          exact ⟨⟨y0, y1, y2, y3⟩, HY.out w' (b_call HB6.out hb)⟩)
        clear a0 a1 a2 a3
        refine wp_region_held_drew (S := (fun w' => (w'.cell? ⟨w5.heap.size, 0, none⟩ = some (.bool zu) ∧ w'.cell? ⟨w5.heap.size, 1, none⟩ = some (.slice za zn zc) ∧ w'.cell? ⟨w5.heap.size, 2, none⟩ = some (.int .i64 zm) ∧ w'.cell? ⟨w5.heap.size, 3, none⟩ = some (.slice va vn vc)) ∧ (w'.cell? ⟨w.heap.size, 0, none⟩ = some (.bool qu) ∧ w'.cell? ⟨w.heap.size, 1, none⟩ = some (.slice qa qn qc) ∧ w'.cell? ⟨w.heap.size, 2, none⟩ = some (.int .i64 qm) ∧ w'.cell? ⟨w.heap.size, 3, none⟩ = some (.slice ra rn rc)))) (by kernel_rfl) (HS18.out _ (b_drew (Below.refl _ _))) (fun hHeld => ?_)
        refine atI 0 ?_
        iterate 9 (refine takeN (v := ?_) rfl (by rfl) ?_ hHeld ?_; rotate_left; (focus (intro w hSw; (try dsimp only at hSw); go_simp; try (with_reducible rfl))); (try simp only [Act.put, Nat.reduceAdd, List.getElem_toArray, List.getElem_cons_succ, List.getElem_cons_zero, List.setIfInBounds_toArray, List.set_cons_zero, List.set_cons_succ]))
        refine atIo ?_
        refine wpAnyH_ready (rs := [9]) (by kernel_rfl) (by simp) (AllReadyH.cons rfl (fun K hK => ?_) AllReadyH.nil)
        go_simp
        refine (ours25_any ⟨qu, ⟨qa, qn, qc⟩, qm, ⟨ra, rn, rc⟩⟩ C _ (readP_below HP2.out (b_call HB6.out (by (repeat' (first | exact Below.refl _ _ | assumption | refine b_alloc ?_ _ | refine b_over ?_ _ | refine b_drew ?_ | refine b_call ?_ (by assumption)))))) HSM.out.1).mono ?_
        rintro e w21 ⟨o4, rfl, ho4, hb21⟩
        have HO4 := Lib.hid ho4
        obtain ⟨ou4, ⟨oa4, on4, oc4⟩, om4, ⟨pa4, pn4, pc4⟩⟩ := o4
        clear ho4
        unfold aggP Sl.v
        simp only
        refine hK.out _ _ (HS18.out _ (by (repeat' (first | exact Below.refl _ _ | assumption | refine b_alloc ?_ _ | refine b_over ?_ _ | refine b_drew ?_ | refine b_call ?_ (by assumption))))) (fun hHeld => ?_)
        clear hK K
        (try simp only [Act.put, List.getElem_toArray, List.getElem_cons_succ, List.getElem_cons_zero, List.setIfInBounds_toArray, List.set_cons_zero, List.set_cons_succ])
        refine wpAnyH_ready (rs := [10]) (by kernel_rfl) (by simp) (AllReadyH.cons rfl (fun K hK => ?_) AllReadyH.nil)
        go_simp
        refine (psame_any ⟨zu, ⟨za, zn, zc⟩, zm, ⟨va, vn, vc⟩⟩ ⟨ou4, ⟨oa4, on4, oc4⟩, om4, ⟨pa4, pn4, pc4⟩⟩ C C _ (readP_below HQ5.out (b_call HB56.out (by (repeat' (first | exact Below.refl _ _ | assumption | refine b_alloc ?_ _ | refine b_over ?_ _ | refine b_drew ?_ | refine b_call ?_ (by assumption)))))) HO4.out HSM.out.1 HSM.out.1).mono ?_
        rintro e w22 ⟨bb, rfl, hbb, hb22⟩
        obtain rfl : bb = true := hbb.2 rfl
        clear hbb
        refine hK.out _ _ (HS18.out _ (by (repeat' (first | exact Below.refl _ _ | assumption | refine b_alloc ?_ _ | refine b_over ?_ _ | refine b_drew ?_ | refine b_call ?_ (by assumption))))) (fun hHeld => ?_)
        clear hK K
        (try simp only [Act.put, List.getElem_toArray, List.getElem_cons_succ, List.getElem_cons_zero, List.setIfInBounds_toArray, List.set_cons_zero, List.set_cons_succ])
        refine atI 11 ?_
        iterate 2 (refine takeN (v := ?_) rfl (by rfl) ?_ hHeld ?_; rotate_left; (focus (intro w hSw; (try dsimp only at hSw); go_simp; try (with_reducible rfl))); (try simp only [Act.put, Nat.reduceAdd, List.getElem_toArray, List.getElem_cons_succ, List.getElem_cons_zero, List.setIfInBounds_toArray, List.set_cons_zero, List.set_cons_succ]))
        refine atIo ?_
        refine wpAnyH_ready (rs := [13]) (by kernel_rfl) (by simp) (AllReadyH.cons rfl (fun K hK => ?_) AllReadyH.nil)
        go_simp
        refine (awake34 _ (max_below HM.out (b_call HB2.out (b_call HB6.out (by (repeat' (first | exact Below.refl _ _ | assumption | refine b_alloc ?_ _ | refine b_over ?_ _ | refine b_drew ?_ | refine b_call ?_ (by assumption)))))))).mono ?_
        rintro e w26 ⟨rfl, hb26⟩
        refine hK.out _ _ (HS18.out _ (by (repeat' (first | exact Below.refl _ _ | assumption | refine b_alloc ?_ _ | refine b_over ?_ _ | refine b_drew ?_ | refine b_call ?_ (by assumption))))) (fun hHeld => ?_)
        clear hK K
        (try simp only [Act.put, List.getElem_toArray, List.getElem_cons_succ, List.getElem_cons_zero, List.setIfInBounds_toArray, List.set_cons_zero, List.set_cons_succ])
        refine atI 14 ?_
        iterate 2 (refine takeN (v := ?_) rfl (by rfl) ?_ hHeld ?_; rotate_left; (focus (intro w hSw; (try dsimp only at hSw); go_simp; try (with_reducible rfl))); (try simp only [Act.put, Nat.reduceAdd, List.getElem_toArray, List.getElem_cons_succ, List.getElem_cons_zero, List.setIfInBounds_toArray, List.set_cons_zero, List.set_cons_succ]))
        refine atIo ?_
        refine wpAnyH_done (by kernel_rfl) ?_ _
        go_wp2
        go_ret
        exact ⟨rfl, b_call HB2.out (b_call HB6.out (by (repeat' (first | exact Below.refl _ _ | assumption | refine b_alloc ?_ _ | refine b_over ?_ _ | refine b_drew ?_ | refine b_call ?_ (by assumption)))))⟩
        -- E18
end Go.Proofs.YtedmjlhgpdeafaaDoor
