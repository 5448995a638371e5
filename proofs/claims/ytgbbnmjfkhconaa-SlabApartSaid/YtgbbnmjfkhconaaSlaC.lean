/- Layer 7, plain: what is written into a live block, within its room, leaves the slab whole; a block that was taken is noughts. No program in sight. No conditions beside those stated. -/
import Derived.Test.YtgbbnmjfkhconaaSlaL
namespace Go.Proofs.Ytgbbnmjfkhconaa
set_option linter.unusedVariables false
set_option linter.unusedSimpArgs false
variable {m : SlM} {P Z N : Nat} {fl : List Nat}
theorem good_store (h : SGood m P Z N fl) {k : Nat} (hk : k < N) (hl : m.ll.getD k false = true) {M : List Int} (hM : M.length ≤ Z - 8) : SGood { m with L := storeL m.L ((bsN P Z k : Nat) : Int) M } P Z N fl := by
  obtain ⟨z1, z2, _, _, _⟩ := cls_bd h.zn
  have hin := good_in h hk
  have e2 : storeL m.L ((bsN P Z k : Nat) : Int) M = lay m.L (bsN P Z k) M := by
    unfold storeL
    rw [inE_ok (by omega), if_pos rfl, Int.toNat_natCast]
  have ho : OutS m.L (storeL m.L ((bsN P Z k : Nat) : Int) M) (bsN P Z k) Z := by
    rw [e2]; exact out_lay (by omega) (Nat.le_refl _) (by omega)
  have hnk : k ∉ fl := fun q => by have := (h.fr k).1 q; rw [hl] at this; cases this.2.1
  refine ⟨h.pg, h.pm, h.zn, h.ll, h.hl, by show _ ≤ (storeL _ _ _).length; rw [ho.1]; exact h.fit, by show (storeL _ _ _).length ≤ _; rw [ho.1]; exact h.mx, h.nd, h.fr, h.two, chain_out h.zn ho hnk h.ch, h.fst, fun j hj hl2 => ?_, fun j hj hl2 i hi => ?_⟩
  · show getW (storeL m.L ((bsN P Z k : Nat) : Int) M) (bsN P Z j + (Z - 8)) = canI m.key ((bsN P Z j : Nat) : Int)
    by_cases e : j = k
    · subst e
      rw [e2, word_out (by omega) (by omega)]
      exact h.can j hj hl2
    · rw [can_out h.zn e ho]
      exact h.can j hj hl2
  · have hl' : m.hl.getD j false = true := hl2
    have e : j ≠ k := fun e => by rw [e, h.two k hl] at hl'; cases hl'
    show (storeL m.L ((bsN P Z k : Nat) : Int) M).getD (bsN P Z j + i) 0 = 221
    rw [gone_out h.zn e ho hi]
    exact h.gone j hj hl' i hi
theorem take_zero {k : Nat} {rest : List Nat} (h : SGood m P Z N (k :: rest)) : loadL (takeM m P Z k rest).L ((bsN P Z k : Nat) : Int) ((Z - 8 : Nat) : Int) = List.replicate (Z - 8) 0 := by
  have hk : k < N := ((h.fr k).1 (List.mem_cons_self ..)).1
  obtain ⟨z1, z2, _, _, _⟩ := cls_bd h.zn
  have hin := good_in h hk
  obtain ⟨w1, w2⟩ := good_word h hk
  have e1 : fillL m.L ((bsN P Z k : Nat) : Int) ((Z - 8 : Nat) : Int) 0 = lay m.L (bsN P Z k) (List.replicate (Z - 8) 0) := fill_in (by omega) 0
  have l1 : (lay m.L (bsN P Z k) (List.replicate (Z - 8) 0)).length = m.L.length := lay_length (by simp only [List.length_replicate]; omega)
  have e2 : (takeM m P Z k rest).L = lay (lay m.L (bsN P Z k) (List.replicate (Z - 8) 0)) (bsN P Z k + (Z - 8)) (putL 8 (canI m.key ((bsN P Z k : Nat) : Int))) := by
    show setW (fillL m.L ((bsN P Z k : Nat) : Int) ((Z - 8 : Nat) : Int) 0) ((bsN P Z k + (Z - 8) : Nat) : Int) _ = _
    rw [e1, setw_in (by rw [l1]; exact w2)]
  have l2 : (takeM m P Z k rest).L.length = m.L.length := (good_take h).2.1
  unfold loadL
  rw [inE_ok (by rw [l2]; omega), if_pos rfl, Int.toNat_natCast, Int.toNat_natCast]
  apply List.ext_getElem?
  intro i
  by_cases hi : i < Z - 8
  · rw [List.getElem?_take_of_lt hi, List.getElem?_drop, e2, lay_out (by rw [putL_len8, l1]; omega) _ (Or.inl (by omega))]
    have z := lay_get (L := m.L) (M := List.replicate (Z - 8) (0 : Int)) (k := bsN P Z k) (by simp only [List.length_replicate]; omega) (bsN P Z k + i) 7
    rw [if_pos (by simp only [List.length_replicate]; omega), Nat.add_sub_cancel_left, List.getD_eq_getElem?_getD, List.getD_eq_getElem?_getD, List.getElem?_replicate, if_pos hi, List.getElem?_eq_getElem (by rw [l1]; omega)] at z
    rw [List.getElem?_replicate, if_pos hi, List.getElem?_eq_getElem (by rw [l1]; omega)]
    exact congrArg some z
  · rw [List.getElem?_eq_none (by rw [List.length_take]; omega), List.getElem?_eq_none (by simp only [List.length_replicate]; omega)]
end Go.Proofs.Ytgbbnmjfkhconaa
