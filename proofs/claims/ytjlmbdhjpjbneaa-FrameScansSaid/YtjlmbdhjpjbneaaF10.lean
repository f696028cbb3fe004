/- Layer 4 (frame): what is got was a frame; a frame with one byte changed is none. -/
import Derived.Test.YtjlmbdhjpjbneaaF7
namespace Go.Proofs.Ytjlmbdhjpjbneaa
open Go.RowKit
set_option linter.unusedVariables false
set_option maxRecDepth 100000

theorem frm_len' (l : List UInt8) : (frm l).length = vsize l.length + l.length + 4 := by
  unfold frm
  rw [List.length_append, List.length_append, leB_length, vsize_eq]
theorem fG_only (l : List UInt8) (h : (fG l).2.2 = 0) : ∃ r, l = frm (fG l).1 ++ r ∧ (fG l).2.1 = (frm (fG l).1).length ∧ (fG l).1.length ≤ 1048576 := by
  rcases vget_err l 0 0 with ⟨x, k, hv⟩ | hv | hv
  · obtain ⟨hx, hk, r, hlr⟩ := vget_only l x k hv
    have hG : fG l = if 1048576 < x then ([], 0, 3) else if l.length < k + x + 4 then ([], 0, 2) else if ofLe ((l.drop (k + x)).take 4) ≠ crcN ((l.drop k).take x) then ([], 0, 5) else ((l.drop k).take x, k + x + 4, 0) := by
      unfold fG
      rw [hv]
      simp
    rw [hG] at h ⊢
    by_cases g1 : 1048576 < x
    · rw [if_pos g1] at h; simp at h
    · rw [if_neg g1] at h ⊢
      by_cases g2 : l.length < k + x + 4
      · rw [if_pos g2] at h; simp at h
      · rw [if_neg g2] at h ⊢
        by_cases g3 : ofLe ((l.drop (k + x)).take 4) = crcN ((l.drop k).take x)
        · rw [if_neg (by simp [g3])]
          have hl : ((l.drop k).take x).length = x := by rw [List.length_take, List.length_drop]; omega
          have h4 : ((l.drop (k + x)).take 4).length = 4 := by rw [List.length_take, List.length_drop]; omega
          have hlb := leB_ofLe ((l.drop (k + x)).take 4)
          rw [h4, g3] at hlb
          have hd : l.drop k = r := by rw [hlr, hk, List.drop_left' rfl]
          have hF : frm ((l.drop k).take x) = vput x ++ (l.drop k).take x ++ (l.drop (k + x)).take 4 := by
            unfold frm
            rw [hl, hlb]
          refine ⟨l.drop (k + x + 4), ?_, ?_, by show ((l.drop k).take x).length ≤ _; omega⟩
          · show l = frm ((l.drop k).take x) ++ _
            rw [hF]
            have e1 : (l.drop (k + x)).take 4 ++ l.drop (k + x + 4) = l.drop (k + x) := by
              rw [show l.drop (k + x + 4) = (l.drop (k + x)).drop 4 by rw [List.drop_drop], List.take_append_drop]
            have e2 : (l.drop k).take x ++ l.drop (k + x) = l.drop k := by
              rw [show l.drop (k + x) = (l.drop k).drop x by rw [List.drop_drop], List.take_append_drop]
            rw [List.append_assoc, e1, List.append_assoc, e2, hd]
            exact hlr
          · show k + x + 4 = (frm ((l.drop k).take x)).length
            rw [hF, List.length_append, List.length_append, hl, h4, hk]
        · rw [if_pos g3] at h; simp at h
  all_goals
    have hG : fG l = ([], 0, (vget 0 0 l).2.2) := by simp [fG, hv]
    rw [hG, hv] at h
    simp at h
theorem set_ne (l : List UInt8) (k : Nat) (hk : k < l.length) (x : UInt8) (hx : x ≠ 0) : l.set k (l.getD k 0 ^^^ x) ≠ l := by
  intro h
  have h1 := congrArg (fun m => m[k]?) h
  simp [hk] at h1
  have h2 := congrArg (l[k] ^^^ ·) h1
  simp [← UInt8.xor_assoc] at h2
  exact hx h2
theorem crcN_set_ne (l : List UInt8) (k : Nat) (hk : k < l.length) (x : UInt8) (hx : x ≠ 0) : crcN (l.set k (l.getD k 0 ^^^ x)) ≠ crcN l := by
  intro h
  rw [crcN_set l k hk x] at h
  have h2 := congrArg (crcN l ^^^ ·) h
  simp [← Nat.xor_assoc] at h2
  have h3 := (stpN_eq_zero (8 * (l.length - k)) (s := x.toNat) (by have := x.toNat_lt; omega)).1 h2
  exact hx (UInt8.toNat_inj.1 (by simpa using h3))
theorem getD_left {l m : List UInt8} {k : Nat} (h : k < l.length) : (l ++ m).getD k 0 = l.getD k 0 := by
  simp [List.getD, List.getElem?_append_left h]
theorem getD_right {l m : List UInt8} {k : Nat} (h : l.length ≤ k) : (l ++ m).getD k 0 = m.getD (k - l.length) 0 := by
  simp [List.getD, List.getElem?_append_right h]
theorem frm_spoilt (l b : List UInt8) (k : Nat) (hk : k < (frm l).length) (x : UInt8) (hx : x ≠ 0) (h : (frm l).set k ((frm l).getD k 0 ^^^ x) = frm b) : False := by
  have hlen := congrArg List.length h
  rw [List.length_set, frm_len', frm_len'] at hlen
  have hlb : b.length = l.length := by
    rcases Nat.lt_trichotomy b.length l.length with g | g | g
    · have := vsize_mono (Nat.le_of_lt g); omega
    · exact g
    · have := vsize_mono (Nat.le_of_lt g); omega
  have hFb : frm b = vput l.length ++ (b ++ leB (crcN b) 4) := by unfold frm; rw [hlb, List.append_assoc]
  have hFl : frm l = vput l.length ++ (l ++ leB (crcN l) 4) := by unfold frm; rw [List.append_assoc]
  rw [hFb] at h
  rw [hFl] at h hk
  have hc1 := crcN_lt l
  have hc2 := crcN_lt b
  have h4 := leB_length (crcN l) 4
  generalize vput l.length = V at *
  rw [List.length_append, List.length_append, h4] at hk
  rw [List.set_append] at h
  by_cases h1 : k < V.length
  · rw [if_pos h1, getD_left h1] at h
    exact set_ne V k h1 x hx (List.append_inj h (by simp)).1
  · rw [if_neg h1, getD_right (by omega)] at h
    have h' := (List.append_inj h rfl).2
    rw [List.set_append] at h'
    by_cases h2 : k - V.length < l.length
    · rw [if_pos h2, getD_left h2] at h'
      obtain ⟨q1, q2⟩ := List.append_inj h' (by simp [hlb])
      have q3 := congrArg ofLe q2
      rw [ofLe_leB _ _ (by omega), ofLe_leB _ _ (by omega), ← q1] at q3
      exact crcN_set_ne l _ h2 x hx q3.symm
    · rw [if_neg h2, getD_right (by omega)] at h'
      obtain ⟨q1, q2⟩ := List.append_inj h' hlb.symm
      subst q1
      exact set_ne _ _ (by omega) x hx q2
/-- What One says of a frame that was spoilt. -/
theorem f1_spoilt (l : List UInt8) (k : Nat) (hk : k < (frm l).length) (x : UInt8) (hx : x ≠ 0) : ∃ er, er ≠ 0 ∧ f1 ((frm l).set k ((frm l).getD k 0 ^^^ x)) = ([], er) := by
  generalize hc : (frm l).set k ((frm l).getD k 0 ^^^ x) = c
  unfold f1
  by_cases h1 : (fG c).2.2 = 0
  · rw [if_neg (by simp [h1])]
    by_cases h2 : (fG c).2.1 < c.length
    · rw [if_pos h2]; exact ⟨1, by decide, rfl⟩
    · obtain ⟨r, hr, hm, _⟩ := fG_only c h1
      have hr0 : r = [] := by
        have := congrArg List.length hr
        rw [List.length_append] at this
        exact List.eq_nil_of_length_eq_zero (by omega)
      rw [hr0, List.append_nil] at hr
      exact (frm_spoilt l (fG c).1 k hk x hx (hc.trans hr)).elim
  · rw [if_pos h1]
    exact ⟨_, h1, rfl⟩
theorem f1_frm (l : List UInt8) (h : l.length ≤ 1048576) : f1 (frm l) = (l, 0) := by
  unfold f1
  rw [fG_frm l h]
  simp
end Go.Proofs.Ytjlmbdhjpjbneaa
