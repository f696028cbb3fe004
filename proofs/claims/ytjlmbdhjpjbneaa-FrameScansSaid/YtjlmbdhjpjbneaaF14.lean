/- Layer 4 (frame): frames one behind the other, cut off anywhere. -/
import Derived.Test.YtjlmbdhjpjbneaaF13
namespace Go.Proofs.Ytjlmbdhjpjbneaa
open Go.RowKit
set_option linter.unusedVariables false
set_option maxRecDepth 100000

theorem fG_frm_app (l r : List UInt8) (h : l.length ≤ 1048576) : fG (frm l ++ r) = (l, (frm l).length, 0) := by
  have hv : vget 0 0 (frm l ++ r) = (l.length, (vput l.length).length, 0) := by
    unfold frm
    rw [List.append_assoc, List.append_assoc]
    exact vget_put _ _ (by omega)
  have hL : (frm l).length = (vput l.length).length + l.length + 4 := by
    unfold frm
    rw [List.length_append, List.length_append, leB_length]
  have hX := crcN_lt l
  have d1 : (frm l ++ r).drop (vput l.length).length = l ++ (leB (crcN l) 4 ++ r) := by
    unfold frm
    rw [List.append_assoc, List.append_assoc, List.drop_left' rfl]
  have d2 : (frm l ++ r).drop ((vput l.length).length + l.length) = leB (crcN l) 4 ++ r := by
    rw [← List.drop_drop, d1, List.drop_left' rfl]
  unfold fG
  rw [hv]
  simp only [ne_eq, not_true_eq_false, if_false]
  rw [if_neg (by omega), if_neg (by rw [List.length_append]; omega), d1, d2, List.take_left' rfl, List.take_left' (leB_length _ _), ofLe_leB _ _ (by omega)]
  simp [hL]
/-- A frame that is cut off is none. -/
theorem fG_cut (l : List UInt8) (k : Nat) (h : l.length ≤ 1048576) (hk : k < (frm l).length) : (fG ((frm l).take k)).2.2 ≠ 0 := by
  intro h0
  obtain ⟨r, hr, hm, hb⟩ := fG_only _ h0
  have h1 := congrArg List.length hr
  rw [List.length_append, List.length_take] at h1
  have h2 : frm l = frm (fG ((frm l).take k)).1 ++ (r ++ (frm l).drop k) := by
    conv => lhs; rw [← List.take_append_drop k (frm l), hr]
    rw [List.append_assoc]
  have h3 := fG_frm l h
  have h4 := congrArg fG h2
  rw [fG_frm_app _ _ hb, h3] at h4
  have h5 := congrArg (fun x => x.2.1) h4
  simp only at h5
  omega
def fcat (L : List (List UInt8)) : List UInt8 := L.flatMap frm
theorem fcat_cons (l : List UInt8) (L : List (List UInt8)) : fcat (l :: L) = frm l ++ fcat L := by simp [fcat]
theorem fcat_snoc (L : List (List UInt8)) (j : Nat) (h : j < L.length) : fcat (L.take (j + 1)) = fcat (L.take j) ++ frm (L.getD j []) := by
  unfold fcat
  rw [List.take_succ_eq_append_getElem h, List.flatMap_append]
  simp [List.getD, List.getElem?_eq_getElem h]
theorem fcat_split (L : List (List UInt8)) (j : Nat) : fcat L = fcat (L.take j) ++ fcat (L.drop j) := by
  unfold fcat
  rw [← List.flatMap_append, List.take_append_drop]
theorem sc_fcat (M : List (List UInt8)) (r : List UInt8) (hM : ∀ l ∈ M, l.length ≤ 1048576) (hr : (fG r).2.2 ≠ 0) : sc (fcat M ++ r) = (M, (fcat M).length) := by
  induction M with
  | nil => simpa [fcat] using sc_no r hr
  | cons l M ih =>
    have hg := fG_frm_app l (fcat M ++ r) (hM l (by simp))
    rw [fcat_cons, List.append_assoc, sc_yes _ (by rw [hg]), hg]
    simp only [List.drop_left' rfl]
    rw [ih (fun x hx => hM x (by simp [hx]))]
    simp
theorem fG_nil : (fG []).2.2 ≠ 0 := by simp [fG, vget_nil]
/-- Frames that are cut off: just those that are whole are scanned. -/
theorem sc_cut (L : List (List UInt8)) (hL : ∀ l ∈ L, l.length ≤ 1048576) (k W : Nat) (hk : k ≤ (fcat L).length) (hW : W ≤ L.length) (h1 : (fcat (L.take W)).length ≤ k) (h2 : W < L.length → k < (fcat (L.take (W + 1))).length) :
    sc ((fcat L).take k) = (L.take W, (fcat (L.take W)).length) := by
  have hM : ∀ l ∈ L.take W, l.length ≤ 1048576 := fun l hl => hL l (List.mem_of_mem_take hl)
  rw [fcat_split L W, List.take_append]
  rw [List.take_of_length_le h1]
  refine sc_fcat _ _ hM ?_
  by_cases hlt : W < L.length
  · have h2' := h2 hlt
    rw [fcat_snoc L W hlt, List.length_append] at h2'
    rw [List.drop_eq_getElem_cons hlt, fcat_cons]
    have hg : L.getD W [] = L[W] := by simp [List.getD, List.getElem?_eq_getElem hlt]
    rw [hg] at h2'
    rw [List.take_append_of_le_length (by omega)]
    exact fG_cut _ _ (hL _ (List.getElem_mem hlt)) (by omega)
  · rw [List.drop_eq_nil_of_le (by omega)]
    simpa [fcat] using fG_nil
theorem fcat_len (L : List (List UInt8)) (h : ∀ l ∈ L, l.length ≤ 200) : (fcat L).length ≤ 214 * L.length := by
  induction L with
  | nil => simp [fcat]
  | cons x l ih =>
    rw [fcat_cons, List.length_append, List.length_cons, frm_len']
    have h0 := h x (by simp)
    have := vsize_le x.length (by omega)
    have := ih (fun y hy => h y (by simp [hy]))
    omega
theorem sc_bound : ∀ (f : Nat) (l : List UInt8), (scF f l).1.length ≤ l.length ∧ (scF f l).2 ≤ l.length ∧ ∀ x ∈ (scF f l).1, x.length ≤ l.length := by
  intro f
  induction f with
  | zero => intro l; simp [scF]
  | succ f ih =>
    intro l
    unfold scF
    by_cases h0 : (fG l).2.2 = 0
    · rw [if_neg (by simp [h0])]
      have hp := fG_pos l h0
      obtain ⟨i1, i2, i3⟩ := ih (l.drop (fG l).2.1)
      rw [List.length_drop] at i1 i2 i3
      refine ⟨by simp only [List.length_cons]; omega, by simp only; omega, ?_⟩
      intro x hx
      rcases List.mem_cons.1 hx with rfl | hx
      · exact hp.2.2
      · have := i3 x hx; omega
    · rw [if_pos h0]
      simp
end Go.Proofs.Ytjlmbdhjpjbneaa
