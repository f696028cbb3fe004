/- Layer 36 (peers), plain: what is stable. -/
import Derived.Test.YtailbppddnegoaaR1
import Derived.Test.YtailbppddnegoaaYE
namespace Go.Proofs.Ytailbppddnegoaa
set_option linter.unusedVariables false

theorem stab_le_v {own : Int} {K : List (List Dt)} {v : List Dt} (hK : KVw K) (hv : Vw v) (d : Nat) (a : Ac) : mget (stabTo own K v d) a ≤ mget v a := by
  induction d with
  | zero => exact Int.le_refl _
  | succ d ih =>
    unfold stabTo
    split
    · exact ih
    · rw [mget_meet (hv.stab d) (hK.get d)]
      omega
theorem stab_le_K {own : Int} {K : List (List Dt)} {v : List Dt} (hK : KVw K) (hv : Vw v) (d i : Nat) (hi : i < d) (ho : (i : Int) ≠ own) (a : Ac) : mget (stabTo own K v d) a ≤ mget (K[i]?.getD []) a := by
  induction d with
  | zero => omega
  | succ d ih =>
    unfold stabTo
    by_cases e : i = d
    · subst e
      rw [if_neg ho, mget_meet (hv.stab i) (hK.get i)]
      omega
    · have := ih (by omega)
      split
      · exact this
      · rw [mget_meet (hv.stab d) (hK.get d)]
        omega
theorem stab_mono {own : Int} {K K' : List (List Dt)} {v : List Dt} (hK : KVw K) (hK' : KVw K') (hv : Vw v) (hle : ∀ (i : Nat) (a : Ac), mget (K[i]?.getD []) a ≤ mget (K'[i]?.getD []) a) (d : Nat) (a : Ac) : mget (stabTo own K v d) a ≤ mget (stabTo own K' v d) a := by
  induction d with
  | zero => exact Int.le_refl _
  | succ d ih =>
    unfold stabTo
    split
    · exact ih
    · rw [mget_meet (hv.stab d) (hK.get d), mget_meet (hv.stab d) (hK'.get d)]
      have := hle d a
      omega
theorem getD_set (K : List (List Dt)) (i j : Nat) (M : List Dt) : (K.set i M)[j]?.getD [] = if i = j ∧ i < K.length then M else K[j]?.getD [] := by
  rw [List.getElem?_set]
  by_cases e : i = j
  · subst e
    by_cases h : i < K.length
    · simp [h]
    · simp [h]
  · simp [e]
theorem heardK_ge {own : Int} {K : List (List Dt)} (hK : KVw K) (d : Int) (L : List Dt) (i : Nat) (a : Ac) : mget (K[i]?.getD []) a ≤ mget ((heardK own K d L (chkE L))[i]?.getD []) a := by
  unfold heardK
  split
  · rename_i h
    rw [getD_set]
    split
    · rename_i h2
      obtain ⟨rfl, _⟩ := h2
      have hc : chkE L = 0 := by
        unfold heardE at h
        split at h
        · exact h
        · cases h
      have hL := (chkE_vw hc).1
      rw [mget_join (hK.get _) hL.1 hL.ro]
      omega
    · exact Int.le_refl _
  · exact Int.le_refl _
/-- A word that has been heard. -/
def Domd (own : Int) (K : List (List Dt)) (d : Int) (L : List Dt) : Prop := heardE own K.length d (chkE L) = 0 → ∀ a, mget L a ≤ mget (K[d.toNat]?.getD []) a
theorem heardE_zero {own : Int} {n : Nat} {d : Int} {c : Int} (h : heardE own n d c = 0) : c = 0 ∧ d.toNat < n := by
  unfold heardE at h
  split at h
  · rename_i ho
    unfold othB at ho
    rw [Bool.and_eq_true, Bool.and_eq_true, decide_eq_true_eq, decide_eq_true_eq] at ho
    exact ⟨h, by have := ho.1; omega⟩
  · cases h
theorem Domd.self {own : Int} {K : List (List Dt)} (hK : KVw K) (d : Int) (L : List Dt) : Domd own (heardK own K d L (chkE L)) d L := by
  intro h a
  rw [heardK_len] at h
  obtain ⟨hc, hd⟩ := heardE_zero h
  have hL := (chkE_vw hc).1
  unfold heardK
  rw [if_pos h, getD_set, if_pos ⟨rfl, hd⟩, mget_join (hK.get _) hL.1 hL.ro]
  omega
theorem Domd.more {own : Int} {K : List (List Dt)} (hK : KVw K) {d : Int} {L : List Dt} (h : Domd own K d L) (d' : Int) (L' : List Dt) : Domd own (heardK own K d' L' (chkE L')) d L := by
  intro he a
  rw [heardK_len] at he
  exact Int.le_trans (h he a) (heardK_ge hK d' L' _ a)
theorem Domd.same {own : Int} {K : List (List Dt)} (hK : KVw K) {d : Int} {L : List Dt} (h : Domd own K d L) : heardK own K d L (chkE L) = K := by
  unfold heardK
  split
  · rename_i he
    obtain ⟨hc, hd⟩ := heardE_zero he
    have hL := (chkE_vw hc).1
    have e : rjoin (K[d.toNat]?.getD []) L = K[d.toNat]?.getD [] := vw_ext ((hK.get _).join _) (hK.get _) fun a => by
      rw [mget_join (hK.get _) hL.1 hL.ro]
      have := h he a
      omega
    rw [e]
    apply List.ext_getElem?
    intro j
    rw [List.getElem?_set]
    by_cases ej : d.toNat = j
    · subst ej
      rw [if_pos rfl, if_pos hd, List.getElem?_eq_getElem hd]
      rfl
    · rw [if_neg ej]
  · rfl
theorem stabL_vw {own : Int} {K : List (List Dt)} {v : List Dt} {c : Int} (hc : c = chkE v) : Vw (stabL own K v c) := by
  unfold stabL
  split
  · rename_i h
    exact (chkE_vw (hc ▸ h)).1.stab _
  · exact Vw.nil
theorem rcov_nil (M : List Dt) : rcov M [] = true := rfl
/-- What is stable is covered by the own marks. -/
theorem stab_cov {own : Int} {K : List (List Dt)} {v : List Dt} (hK : KVw K) : rcov v (stabL own K v (chkE v)) = true := by
  unfold stabL
  split
  · rename_i h
    have hv := (chkE_vw h).1
    exact (rcov_iff hv (hv.stab _)).2 fun a => stab_le_v hK hv _ a
  · rfl
/-- Whatever is heard, it is no less. -/
theorem stab_later {own : Int} {K : List (List Dt)} {v : List Dt} (hK : KVw K) (d : Int) (L : List Dt) : rcov (stabL own (heardK own K d L (chkE L)) v (chkE v)) (stabL own K v (chkE v)) = true := by
  by_cases h : chkE v = 0
  · have hv := (chkE_vw h).1
    refine (rcov_iff (stabL_vw rfl) (stabL_vw rfl)).2 fun a => ?_
    unfold stabL
    rw [if_pos h, if_pos h, heardK_len]
    exact stab_mono hK (hK.heard _ _ _ _) hv (fun i a => heardK_ge hK d L i a) _ a
  · rw [show stabL own K v (chkE v) = [] by unfold stabL; rw [if_neg h]]
    rfl
/-- It is covered by what is known of each. -/
theorem stab_known {own : Int} {K : List (List Dt)} {v : List Dt} (hK : KVw K) {d : Nat} (hd : d < K.length) (ho : (d : Int) ≠ own) : rcov (knownL own K (d : Int)) (stabL own K v (chkE v)) = true := by
  have hk : knownL own K (d : Int) = K[d]?.getD [] := by
    unfold knownL othB
    simp [hd, ho]
  rw [hk]
  by_cases h : chkE v = 0
  · have hv := (chkE_vw h).1
    refine (rcov_iff (hK.get d) (stabL_vw rfl)).2 fun a => ?_
    unfold stabL
    rw [if_pos h]
    exact stab_le_K hK hv _ d hd ho a
  · rw [show stabL own K v (chkE v) = [] by unfold stabL; rw [if_neg h]]
    rfl
/-- All words heard, one by one. -/
def hearAll (own : Int) (K : List (List Dt)) (Ws : List (Int × List Dt)) : List (List Dt) := Ws.foldl (fun K x => heardK own K x.1 x.2 (chkE x.2)) K
theorem hearAll_snoc (own : Int) (K : List (List Dt)) (Ws : List (Int × List Dt)) (x : Int × List Dt) : hearAll own K (Ws ++ [x]) = heardK own (hearAll own K Ws) x.1 x.2 (chkE x.2) := by simp [hearAll]
theorem hearAll_len (own : Int) (K : List (List Dt)) (Ws : List (Int × List Dt)) : (hearAll own K Ws).length = K.length := by
  unfold hearAll
  induction Ws generalizing K with
  | nil => rfl
  | cons x r ih => rw [List.foldl_cons, ih, heardK_len]
theorem KVw.all {K : List (List Dt)} (h : KVw K) (own : Int) (Ws : List (Int × List Dt)) : KVw (hearAll own K Ws) := by
  unfold hearAll
  induction Ws generalizing K with
  | nil => exact h
  | cons x r ih => exact ih (h.heard _ _ _ _)
theorem hearAll_dom {K : List (List Dt)} (h : KVw K) (own : Int) (Ws : List (Int × List Dt)) (T : List (Int × List Dt)) (hT : ∀ x ∈ T, Domd own K x.1 x.2) : ∀ x, x ∈ T ∨ x ∈ Ws → Domd own (hearAll own K Ws) x.1 x.2 := by
  induction Ws generalizing K T with
  | nil =>
    intro x hx
    rcases hx with hx | hx
    · exact hT x hx
    · cases hx
  | cons y r ih =>
    intro x hx
    refine ih (h.heard own y.1 y.2 (chkE y.2)) (y :: T) (fun z hz => ?_) x ?_
    · rcases List.mem_cons.1 hz with rfl | hz
      · exact Domd.self h _ _
      · exact (hT z hz).more h _ _
    · rcases hx with hx | hx
      · exact .inl (List.mem_cons_of_mem _ hx)
      · rcases List.mem_cons.1 hx with rfl | hx
        · exact .inl (List.mem_cons_self ..)
        · exact .inr hx
/-- Heard again, a word changes nothing. -/
theorem hear_again {K : List (List Dt)} (h : KVw K) (own : Int) (Ws : List (Int × List Dt)) {x : Int × List Dt} (hx : x ∈ Ws) : heardK own (hearAll own K Ws) x.1 x.2 (chkE x.2) = hearAll own K Ws :=
  Domd.same (h.all own Ws) (hearAll_dom h own Ws [] (by simp) x (.inr hx))
end Go.Proofs.Ytailbppddnegoaa
