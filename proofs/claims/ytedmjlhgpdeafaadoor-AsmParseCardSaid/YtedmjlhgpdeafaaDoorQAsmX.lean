/- Layer 34, plain: what is printed is parsed as it was, whatever blanks, remarks and empty lines stand there. No program in sight. No conditions beside those stated. -/
import Derived.Test.YtedmjlhgpdeafaaDoorQAsmW
import Derived.Test.YtedmjlhgpdeafaaDoorQAsmB
namespace Go.Proofs.YtedmjlhgpdeafaaDoor
set_option linter.unusedVariables false
set_option linter.unusedSimpArgs false
/-! ### Lines without words do not count -/
def filtW (LS : List (List UInt8)) : List (List (List UInt8)) := (LS.map wordsL).filter fun ws => !ws.isEmpty
def runW (P : PrM) (n : Nat) : List (List (List UInt8)) → Option PrM
  | [] => some P
  | ws :: r => match fitsL P n ws with
    | none => none
    | some q => runW q.1 q.2 r
theorem run_done : ∀ (LS : List (List UInt8)) (P Q : PrM) (n k : Nat), runW P n (filtW LS) = some Q → runL P n k LS = .done Q
  | [], P, Q, n, k, h => by
    have h : some P = some Q := h
    injection h with h
    subst h; rfl
  | l :: r, P, Q, n, k, h => by
    unfold runL
    by_cases hw : wordsL l = []
    · rw [if_pos hw]
      refine run_done r P Q n (k + 1) ?_
      have e : filtW (l :: r) = filtW r := by unfold filtW; rw [List.map_cons, hw]; rfl
      rw [← e]; exact h
    · rw [if_neg hw]
      have e : filtW (l :: r) = wordsL l :: filtW r := by
        unfold filtW
        rw [List.map_cons, List.filter_cons_of_pos]
        cases hq : wordsL l with
        | nil => exact absurd hq hw
        | cons a b => rfl
      rw [e] at h
      unfold runW at h
      cases hf : fitsL P n (wordsL l) with
      | none => rw [hf] at h; cases h
      | some q =>
        rw [hf] at h
        exact run_done r q.1 Q q.2 (k + 1) h
theorem filt_app (a b : List (List UInt8)) : filtW (a ++ b) = filtW a ++ filtW b := by unfold filtW; rw [List.map_append, List.filter_append]
theorem filt_no {l : List UInt8} (h : wordsL l = []) : filtW [l] = [] := by unfold filtW; rw [List.map_cons, h]; rfl
/-! ### Words -/
def Wd (l : List UInt8) : Prop := l ≠ [] ∧ ∀ c ∈ l, c ≠ 59 ∧ isB c = false ∧ c ≠ 10
theorem words_go : ∀ (a w r : List UInt8), (∀ c ∈ a, c ≠ 59 ∧ isB c = false ∧ c ≠ 10) → wordsGo w (a ++ r) = wordsGo (w ++ a) r
  | [], w, r, _ => by rw [List.nil_append, List.append_nil]
  | c :: a, w, r, h => by
    have hc := h c (by simp)
    show wordsGo w (c :: (a ++ r)) = _
    rw [wordsGo, if_neg hc.1, hc.2.1, if_neg (by decide), words_go a (w ++ [c]) r (fun x hx => h x (by simp [hx])), List.append_assoc, List.singleton_append]
theorem words_last {a : List UInt8} (h : Wd a) : wordsGo [] a = [a] := by
  have q := words_go a [] [] h.2
  rw [List.append_nil] at q
  rw [q]
  show (if [] ++ a = [] then [] else [[] ++ a]) = [a]
  rw [List.nil_append, if_neg h.1]
theorem words_more {a : List UInt8} (h : Wd a) (r : List UInt8) : wordsGo [] (a ++ [32] ++ r) = a :: wordsGo [] r := by
  rw [List.append_assoc, words_go a [] _ h.2]
  show (if (32 : UInt8) = 59 then _ else if isB 32 = true then (if [] ++ a = [] then _ else _) else _) = _
  rw [if_neg (by decide), if_pos (by decide), List.nil_append, if_neg h.1]; rfl
theorem wd_kinds (l : List Int) : Wd (kindsL l) := by
  unfold kindsL
  split
  · exact ⟨by simp, by decide⟩
  · rename_i q
    refine ⟨by simpa using q, fun c hc => ?_⟩
    obtain ⟨k, _, rfl⟩ := List.mem_map.1 hc
    unfold kindD
    repeat' split
    all_goals decide
theorem wd_dig : ∀ k : Fin 10, dig k.val ≠ 59 ∧ isB (dig k.val) = false ∧ dig k.val ≠ 10 := by decide
theorem wd_num : ∀ n : Nat, Wd (numL n) := fun n => by
  refine ⟨numL_ne n, ?_⟩
  induction n using Nat.strongRecOn with
  | _ n ih =>
    by_cases h : n < 10
    · rw [numL_lt h]
      intro c hc
      simp only [List.mem_singleton] at hc
      rw [hc]; exact wd_dig ⟨n, h⟩
    · rw [numL_ge h]
      intro c hc
      rcases List.mem_append.1 hc with q | q
      · exact ih (n / 10) (by omega) c q
      · simp only [List.mem_singleton] at q
        rw [q]; exact wd_dig ⟨n % 10, Nat.mod_lt _ (by omega)⟩
theorem wd_hexD : ∀ k : Fin 16, hexD k.val ≠ 59 ∧ isB (hexD k.val) = false ∧ hexD k.val ≠ 10 := by decide
theorem wd_hex : ∀ (k v : Nat), ∀ c ∈ hexL k v, c ≠ 59 ∧ isB c = false ∧ c ≠ 10
  | 0, v, c, h => by cases h
  | k + 1, v, c, h => by
    unfold hexL at h
    rcases List.mem_append.1 h with q | q
    · exact wd_hex k _ c q
    · simp only [List.mem_singleton] at q
      rw [q]; exact wd_hexD ⟨v % 16, Nat.mod_lt _ (by omega)⟩
theorem wd_wide (x : Int) : Wd (wideL x) := by
  unfold wideL
  refine ⟨by simp, fun c hc => ?_⟩
  rcases List.mem_append.1 hc with q | q
  · exact (by decide : ∀ c ∈ ([48, 120] : List UInt8), c ≠ 59 ∧ isB c = false ∧ c ≠ 10) c q
  · exact wd_hex _ _ c q
theorem wd_names : ∀ k : Fin 37, nameL k.val ≠ [] ∧ (∀ c ∈ nameL k.val, c ≠ 59 ∧ isB c = false ∧ c ≠ 10) ∧ nameL k.val ≠ sFunc := by decide +kernel
/-! ### The lines of what is printed -/
def fnLine (f : FnM) : List UInt8 := sFunc ++ [32] ++ (kindsL f.ps ++ [32] ++ (kindsL f.ls ++ [32] ++ kindsL [f.r]))
def fnLines (f : FnM) : List (List UInt8) := fnLine f :: f.code.map lineL
def topLines (P : PrM) : List (List UInt8) := (if P.u = true then [sUnch] else []) ++ [sGlob ++ [32] ++ kindsL P.gl, sMut ++ [32] ++ numI P.m]
def linesP (P : PrM) : List (List UInt8) := topLines P ++ P.fs.flatMap fnLines
def flat (LS : List (List UInt8)) : List UInt8 := LS.flatMap fun x => x ++ [10]
theorem flat_app (a b : List (List UInt8)) : flat (a ++ b) = flat a ++ flat b := by unfold flat; rw [List.flatMap_append]
theorem flat_code : ∀ c : List In4, flat (c.map lineL) = codeL c
  | [] => rfl
  | i :: c => by
    show (lineL i ++ [10]) ++ flat (c.map lineL) = (lineL i ++ [10]) ++ codeL c
    rw [flat_code c]
theorem flat_fn (f : FnM) : flat (fnLines f) = funcL f := by
  show (fnLine f ++ [10]) ++ flat (f.code.map lineL) = headL f ++ codeL f.code
  rw [flat_code]
  unfold fnLine headL sFunc
  simp
theorem flat_fns : ∀ fs : List FnM, flat (fs.flatMap fnLines) = fs.flatMap funcL
  | [] => rfl
  | f :: r => by rw [List.flatMap_cons, flat_app, flat_fn, flat_fns r, List.flatMap_cons]
theorem flat_top (P : PrM) : flat (topLines P) = topL P := by
  unfold topLines topL flat sUnch sGlob sMut
  cases P.u <;> simp
theorem print_flat (P : PrM) : printL P = flat (linesP P) := by
  unfold linesP printL
  rw [flat_app, flat_top, flat_fns]
theorem lines_go : ∀ (x w r : List UInt8), (∀ c ∈ x, c ≠ 10) → linesGo w (x ++ 10 :: r) = (w ++ x) :: linesGo [] r
  | [], w, r, _ => by rw [List.append_nil]; rfl
  | c :: x, w, r, h => by
    show linesGo w (c :: (x ++ 10 :: r)) = _
    rw [linesGo, if_neg (h c (by simp)), lines_go x (w ++ [c]) r (fun y hy => h y (by simp [hy])), List.append_assoc, List.singleton_append]
theorem lines_flat : ∀ (LS : List (List UInt8)), (∀ x ∈ LS, ∀ c ∈ x, c ≠ 10) → linesL (flat LS) = LS ++ [[]]
  | [], _ => rfl
  | x :: r, h => by
    have e : flat (x :: r) = x ++ 10 :: flat r := by show (x ++ [10]) ++ flat r = _; rw [List.append_assoc]; rfl
    rw [e]
    unfold linesL
    rw [lines_go x [] _ (h x (by simp)), List.nil_append]
    have q := lines_flat r (fun y hy => h y (by simp [hy]))
    unfold linesL at q
    rw [q]; rfl
/-! ### What each line is -/
def argsW (i : In4) : List (List UInt8) := if kindOf i.op = 1 then [wideL i.x] else if kindOf i.op = 2 then [numI i.a] else if kindOf i.op = 3 then [numI i.a, numI i.b] else []
theorem line_words {i : In4} (h : 0 ≤ i.op ∧ i.op < 37) : wordsL (lineL i) = nameL i.op.toNat :: argsW i := by
  have hn : Wd (nameL i.op.toNat) := by
    have q := wd_names ⟨i.op.toNat, by omega⟩
    exact ⟨q.1, q.2.1⟩
  unfold lineL argsL argsW wordsL numI
  (repeat' split)
  · rw [← List.append_assoc, words_more hn, words_last (wd_wide _)]
  · rw [← List.append_assoc, words_more hn, words_last (wd_num _)]
  · rw [show ∀ a b c d e : List UInt8, a ++ (b ++ c ++ d ++ e) = a ++ b ++ (c ++ d ++ e) from fun a b c d e => by simp, words_more hn, words_more (wd_num _), words_last (wd_num _)]
  · rw [List.append_nil, words_last hn]
theorem fnLine_words (f : FnM) : wordsL (fnLine f) = [sFunc, kindsL f.ps, kindsL f.ls, kindsL [f.r]] := by
  unfold fnLine wordsL
  rw [words_more (⟨by decide, by decide⟩ : Wd sFunc), words_more (wd_kinds _), words_more (wd_kinds _), words_last (wd_kinds _)]
theorem instr_back {i : In4} (hm : mayB i.op i.x i.a i.b = true) (hg : GoodIn i) : instrL (nameL i.op.toNat) (argsW i) = some i := by
  obtain ⟨⟨h1, h2⟩, ⟨h3, h4⟩, ⟨h5, h6⟩⟩ := may_bd hm
  have ho : opL (nameL i.op.toNat) = some i.op.toNat := opL_names ⟨i.op.toNat, by omega⟩
  have hk : ((i.op.toNat : Nat) : Int) = i.op := by omega
  have hm2 := hm
  unfold mayB shOk shX shN smallB at hm2
  obtain ⟨op, x, a, b⟩ := i
  obtain ⟨g1, g2⟩ := hg
  simp only at *
  unfold instrL argsW
  rw [ho]
  simp only [hk]
  have hle := kind_le op
  have hx : ((x.toNat : Nat) : Int) = x := by omega
  have ha : ((a.toNat : Nat) : Int) = a := by omega
  have hb : ((b.toNat : Nat) : Int) = b := by omega
  rcases (by omega : kindOf op = 0 ∨ kindOf op = 1 ∨ kindOf op = 2 ∨ kindOf op = 3 ∨ kindOf op = 4) with q | q | q | q | q
  · rw [q] at hm2 ⊢
    simp at hm2
    obtain ⟨⟨rfl, rfl⟩, rfl⟩ := hm2
    rfl
  · rw [q] at hm2 ⊢
    simp at hm2
    obtain ⟨rfl, rfl⟩ := hm2
    show (bitsL (wideL x)).bind _ = _
    unfold wideL
    rw [bitsL_back (by omega)]
    show some (⟨op, ((x.toNat : Nat) : Int), 0, 0⟩ : In4) = _
    rw [hx]
  · rw [q] at hm2 ⊢
    simp at hm2
    have e1 : x = 0 := hm2.1.1
    have e2 : b = 0 := hm2.2
    subst e1 e2
    show (valL (numL a.toNat)).bind _ = _
    rw [valL_back (by omega)]
    show some (⟨op, 0, ((a.toNat : Nat) : Int), 0⟩ : In4) = _
    rw [ha]
  · rw [q] at hm2 ⊢
    simp at hm2
    have e1 : x = 0 := hm2.1.1
    subst e1
    show (valL (numL a.toNat)).bind (fun n => (valL (numL b.toNat)).bind fun m => some (⟨op, 0, (n : Int), (m : Int)⟩ : In4)) = _
    rw [valL_back (by omega), valL_back (by omega)]
    show some (⟨op, 0, ((a.toNat : Nat) : Int), ((b.toNat : Nat) : Int)⟩ : In4) = _
    rw [ha, hb]
  · rw [q] at hm2; simp at hm2
theorem instr_fits {P : PrM} {A : List FnM} {m : FnM} {i : In4} (hP : P.fs = A ++ [m]) (hm : mayB i.op i.x i.a i.b = true) (hg : GoodIn i) : fitsL P 3 (nameL i.op.toNat :: argsW i) = some ({ P with fs := A ++ [addI m i] }, 3) := by
  obtain ⟨⟨h1, h2⟩, _, _⟩ := may_bd hm
  have hn := wd_names ⟨i.op.toNat, by omega⟩
  unfold fitsL
  rw [if_neg (by omega), if_neg (by omega), if_neg (by omega)]
  unfold codL
  simp only [hn.2.2, if_false]
  rw [instr_back hm hg]
  show (if P.fs = [] then none else some (({ P with fs := addLast P.fs i } : PrM), 3)) = _
  rw [if_neg (by rw [hP]; simp), hP, addLast_snoc]
theorem fn_fits {P : PrM} {f : FnM} (h1 : ∀ k ∈ f.ps, 0 ≤ k ∧ k ≤ 3) (h2 : ∀ k ∈ f.ls, 0 ≤ k ∧ k ≤ 3) (h3 : 0 ≤ f.r ∧ f.r ≤ 3) : fitsL P 3 [sFunc, kindsL f.ps, kindsL f.ls, kindsL [f.r]] = some ({ P with fs := P.fs ++ [⟨f.ps, f.ls, f.r, []⟩] }, 3) := by
  unfold fitsL
  rw [if_neg (by omega), if_neg (by omega), if_neg (by omega)]
  unfold codL
  simp only [if_true]
  unfold fnL
  simp only [listL_back h1, listL_back h2]
  rw [listL_back (l := [f.r]) (by intro k hk; simp only [List.mem_singleton] at hk; rw [hk]; exact h3)]
  rfl
theorem code_run : ∀ (c : List In4) (P : PrM) (A : List FnM) (m : FnM) (r : List (List (List UInt8))), P.fs = A ++ [m] → (∀ i ∈ c, mayB i.op i.x i.a i.b = true ∧ GoodIn i) → runW P 3 (c.map (fun i => nameL i.op.toNat :: argsW i) ++ r) = runW { P with fs := A ++ [{ m with code := m.code ++ c }] } 3 r
  | [], P, A, m, r, hP, _ => by
    obtain ⟨u, gl, mm, fs⟩ := P
    simp only at hP
    subst hP
    simp only [List.map_nil, List.nil_append, List.append_nil]
  | i :: c, P, A, m, r, hP, h => by
    have hi := h i (by simp)
    show runW P 3 ((nameL i.op.toNat :: argsW i) :: (c.map (fun i => nameL i.op.toNat :: argsW i) ++ r)) = _
    rw [runW, instr_fits hP hi.1 hi.2]
    have q := code_run c { P with fs := A ++ [addI m i] } A (addI m i) r rfl (fun j hj => h j (by simp [hj]))
    refine q.trans ?_
    unfold addI
    simp only [List.append_assoc, List.singleton_append]
theorem fns_run : ∀ (fs : List FnM) (P : PrM) (r : List (List (List UInt8))), (∀ f ∈ fs, mayF f = true ∧ ∀ i ∈ f.code, GoodIn i) → runW P 3 (fs.flatMap (fun f => [sFunc, kindsL f.ps, kindsL f.ls, kindsL [f.r]] :: f.code.map (fun i => nameL i.op.toNat :: argsW i)) ++ r) = runW { P with fs := P.fs ++ fs } 3 r
  | [], P, r, _ => by simp only [List.flatMap_nil, List.nil_append, List.append_nil]
  | f :: fs, P, r, h => by
    obtain ⟨hm, hg⟩ := h f (by simp)
    obtain ⟨⟨p1, _⟩, ⟨p2, _⟩, p3, _, p4⟩ := mayF_parts hm
    rw [List.flatMap_cons, List.append_assoc, List.cons_append, runW, fn_fits p1 p2 p3]
    have q := code_run f.code { P with fs := P.fs ++ [⟨f.ps, f.ls, f.r, []⟩] } P.fs ⟨f.ps, f.ls, f.r, []⟩ (fs.flatMap (fun f => [sFunc, kindsL f.ps, kindsL f.ls, kindsL [f.r]] :: f.code.map (fun i => nameL i.op.toNat :: argsW i)) ++ r) rfl (fun i hi => ⟨p4 i hi, hg i hi⟩)
    refine q.trans ?_
    have q2 := fns_run fs { P with fs := P.fs ++ [f] } r (fun g hgm => h g (by simp [hgm]))
    simp only [List.nil_append, List.append_assoc, List.singleton_append] at q2 ⊢
    exact q2
theorem filt_map {LS : List (List UInt8)} (h : ∀ x ∈ LS, wordsL x ≠ []) : filtW LS = LS.map wordsL := by
  unfold filtW
  rw [List.filter_eq_self]
  intro a ha
  obtain ⟨x, hx, rfl⟩ := List.mem_map.1 ha
  cases hq : wordsL x with
  | nil => exact absurd hq (h x hx)
  | cons b c => rfl
theorem top_words (P : PrM) : (topLines P).map wordsL = (if P.u = true then [[sUnch]] else []) ++ [[sGlob, kindsL P.gl], [sMut, numI P.m]] := by
  unfold topLines
  have e1 : wordsL sUnch = [sUnch] := by decide
  have e2 : wordsL (sGlob ++ [32] ++ kindsL P.gl) = [sGlob, kindsL P.gl] := by
    unfold wordsL
    rw [words_more (⟨by decide, by decide⟩ : Wd sGlob), words_last (wd_kinds _)]
  have e3 : wordsL (sMut ++ [32] ++ numI P.m) = [sMut, numI P.m] := by
    unfold wordsL numI
    rw [words_more (⟨by decide, by decide⟩ : Wd sMut), words_last (wd_num _)]
  rw [List.map_append, List.map_cons, List.map_cons, e2, e3]
  cases P.u
  · rfl
  · show [wordsL sUnch] ++ _ = _; rw [e1]; rfl
theorem fns_words : ∀ (fs : List FnM), (∀ f ∈ fs, mayF f = true) → (fs.flatMap fnLines).map wordsL = fs.flatMap (fun f => [sFunc, kindsL f.ps, kindsL f.ls, kindsL [f.r]] :: f.code.map (fun i => nameL i.op.toNat :: argsW i))
  | [], _ => rfl
  | f :: r, h => by
    obtain ⟨_, _, _, _, p4⟩ := mayF_parts (h f (by simp))
    rw [List.flatMap_cons, List.flatMap_cons, List.map_append, fns_words r (fun g hg => h g (by simp [hg]))]
    congr 1
    show wordsL (fnLine f) :: (f.code.map lineL).map wordsL = _
    rw [fnLine_words, List.map_map]
    congr 1
    exact List.map_congr_left (fun i hi => line_words (may_bd (p4 i hi)).1)
theorem lineP_no10 {P : PrM} (hm : mayP P = true) : (∀ x ∈ linesP P, ∀ c ∈ x, c ≠ 10) := by
  obtain ⟨_, _, _, hf⟩ := mayP_parts hm
  have w10 : ∀ {l : List UInt8}, Wd l → ∀ c ∈ l, c ≠ 10 := fun h c hc => (h.2 c hc).2.2
  intro x hx c hc
  unfold linesP at hx
  rcases List.mem_append.1 hx with q | q
  · unfold topLines at q
    rcases List.mem_append.1 q with q | q
    · split at q
      · simp only [List.mem_singleton] at q
        subst q
        exact (by decide : ∀ c ∈ sUnch, c ≠ 10) c hc
      · cases q
    · simp only [List.mem_cons, List.not_mem_nil, or_false] at q
      rcases q with rfl | rfl
      · rcases List.mem_append.1 hc with z | z
        · exact (by decide : ∀ c ∈ sGlob ++ [32], c ≠ 10) c z
        · exact w10 (wd_kinds _) c z
      · rcases List.mem_append.1 hc with z | z
        · exact (by decide : ∀ c ∈ sMut ++ [32], c ≠ 10) c z
        · exact w10 (wd_num _) c z
  · obtain ⟨f, hfm, hxf⟩ := List.mem_flatMap.1 q
    obtain ⟨_, _, _, _, p4⟩ := mayF_parts (hf f hfm)
    rcases List.mem_cons.1 hxf with rfl | hxc
    · unfold fnLine at hc
      simp only [List.mem_append] at hc
      rcases hc with (z | z) | (z | z) | (z | z) | z
      · exact (by decide : ∀ c ∈ sFunc, c ≠ 10) c z
      · exact (by decide : ∀ c ∈ ([32] : List UInt8), c ≠ 10) c z
      · exact w10 (wd_kinds _) c z
      · exact (by decide : ∀ c ∈ ([32] : List UInt8), c ≠ 10) c z
      · exact w10 (wd_kinds _) c z
      · exact (by decide : ∀ c ∈ ([32] : List UInt8), c ≠ 10) c z
      · exact w10 (wd_kinds _) c z
    · obtain ⟨i, hi, rfl⟩ := List.mem_map.1 hxc
      have hb := (may_bd (p4 i hi)).1
      have hn := wd_names ⟨i.op.toNat, by omega⟩
      unfold lineL at hc
      rcases List.mem_append.1 hc with z | z
      · exact (hn.2.1 c z).2.2
      · unfold argsL numI at z
        (repeat' split at z)
        · rcases List.mem_append.1 z with y | y
          · exact (by decide : ∀ c ∈ ([32] : List UInt8), c ≠ 10) c y
          · exact w10 (wd_wide _) c y
        · rcases List.mem_append.1 z with y | y
          · exact (by decide : ∀ c ∈ ([32] : List UInt8), c ≠ 10) c y
          · exact w10 (wd_num _) c y
        · simp only [List.mem_append] at z
          rcases z with ((y | y) | y) | y
          · exact (by decide : ∀ c ∈ ([32] : List UInt8), c ≠ 10) c y
          · exact w10 (wd_num _) c y
          · exact (by decide : ∀ c ∈ ([32] : List UInt8), c ≠ 10) c y
          · exact w10 (wd_num _) c y
        · cases z
/-- What has the lines of what is printed makes the program again. -/
theorem print_run {P : PrM} (hm : mayP P = true) (hg : GoodP P) : runW P0 0 (filtW (linesL (printL P))) = some P := by
  obtain ⟨⟨f1, f2⟩, ⟨m1, m2⟩, ⟨g1, g2⟩, hf⟩ := mayP_parts hm
  rw [print_flat, lines_flat _ (lineP_no10 hm), filt_app, filt_no (show wordsL [] = [] from rfl), List.append_nil]
  have hw : (linesP P).map wordsL = ((if P.u = true then [[sUnch]] else []) ++ [[sGlob, kindsL P.gl], [sMut, numI P.m]]) ++ P.fs.flatMap (fun f => [sFunc, kindsL f.ps, kindsL f.ls, kindsL [f.r]] :: f.code.map (fun i => nameL i.op.toNat :: argsW i)) := by
    unfold linesP
    rw [List.map_append, top_words, fns_words _ hf]
  have hne : ∀ x ∈ linesP P, wordsL x ≠ [] := by
    intro x hx
    have : wordsL x ∈ (linesP P).map wordsL := List.mem_map_of_mem hx
    rw [hw] at this
    intro q
    rw [q] at this
    simp at this
  rw [filt_map hne, hw]
  have hR := fns_run P.fs { P with fs := [] } [] (fun f hfm => ⟨hf f hfm, hg f hfm⟩)
  rw [List.append_nil, List.nil_append] at hR
  have hv : valL (numI P.m) = some P.m.toNat := valL_back (by omega)
  have e2 : ∀ Q : PrM, fitsL Q 2 [sMut, numI P.m] = some ({ Q with m := P.m }, 3) := fun Q => by
    unfold fitsL
    rw [if_neg (by omega), if_neg (by omega), if_pos rfl]
    unfold mutL
    simp only [if_true]
    rw [hv]
    show some (({ Q with m := ((P.m.toNat : Nat) : Int) } : PrM), 3) = _
    rw [show ((P.m.toNat : Nat) : Int) = P.m by omega]
  have e1 : ∀ (Q : PrM) (n : Nat), n ≤ 1 → fitsL Q n [sGlob, kindsL P.gl] = some ({ Q with gl := P.gl }, 2) := fun Q n hn => by
    unfold fitsL
    rw [if_neg (fun q => absurd q.2 (by simp)), if_pos hn]
    unfold globL
    simp only [if_true]
    rw [listL_back g1]; rfl
  have e0 : fitsL P0 0 [sUnch] = some ({ P0 with u := true }, 1) := by
    unfold fitsL
    rw [if_pos ⟨rfl, rfl⟩]
  obtain ⟨u, gl, m, fs⟩ := P
  simp only at *
  cases u
  · show runW P0 0 ([sGlob, kindsL gl] :: [sMut, numI m] :: _) = _
    rw [runW, e1 _ 0 (by omega)]
    show runW _ 2 ([sMut, numI m] :: _) = _
    rw [runW, e2]
    exact hR.trans rfl
  · show runW P0 0 ([sUnch] :: [sGlob, kindsL gl] :: [sMut, numI m] :: _) = _
    rw [runW, e0]
    show runW _ 1 ([sGlob, kindsL gl] :: [sMut, numI m] :: _) = _
    rw [runW, e1 _ 1 (by omega)]
    show runW _ 2 ([sMut, numI m] :: _) = _
    rw [runW, e2]
    exact hR.trans rfl
theorem parse_of {P : PrM} {s : List UInt8} (hm : mayP P = true) (h : runW P0 0 (filtW (linesL s)) = some P) : parseL s = .done P := by
  unfold parseL
  rw [run_done _ _ _ 0 1 h]
  simp only [hm, if_true]
/-! ### Blanks, remarks and lines without words -/
def sfxL (k : Nat) : List UInt8 := match k with | 0 => [] | 1 => [32, 59, 32, 120] | 2 => [9] | _ => [59]
def extL (k : Nat) : List UInt8 := match k with | 0 => [] | 1 => [10] | 2 => [32, 10] | _ => [59, 32, 121, 10]
def preK (k : Nat) : List UInt8 := match k with | 0 => [] | 1 => [32] | 2 => [9] | _ => []
/-- The text with blanks, so far. -/
inductive Bln : List UInt8 → List UInt8 → Prop
  | nil : Bln [] []
  | ch {a b : List UInt8} (c : UInt8) (h : Bln a b) (hc : c ≠ 10) : Bln (a ++ [c]) (b ++ [c])
  | nl {a b : List UInt8} (k : Nat) (h : Bln a b) (hk : k < 4) : Bln (a ++ [10]) (b ++ sfxL k ++ [10] ++ extL k ++ preK k)
end Go.Proofs.YtedmjlhgpdeafaaDoor
