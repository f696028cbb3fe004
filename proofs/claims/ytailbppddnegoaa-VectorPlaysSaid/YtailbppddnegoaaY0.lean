/- Vectors (plain): how many marks there are at most; sums. -/
import Derived.Test.YtailbppddnegoaaQV
namespace Go.Proofs.Ytailbppddnegoaa
set_option linter.unusedVariables false

theorem nodup_len : ∀ (N : Nat) (l : List Nat), l.Nodup → (∀ x ∈ l, x < N) → l.length ≤ N
  | 0, [], _, _ => Nat.le_refl _
  | 0, x :: r, _, h => absurd (h x (List.mem_cons_self ..)) (by omega)
  | N + 1, l, hn, h => by
    have h1 := nodup_len N (l.erase N) (hn.erase N) (fun x hx => by
      have hx' := (hn.mem_erase_iff).1 hx
      have := h x hx'.2
      have := hx'.1
      omega)
    rw [List.length_erase] at h1
    split at h1 <;> omega
def acN (a : Ac) : Nat := a.1.toNat * 1048577 + a.2.toNat
theorem Vw.len {M : List Dt} (h : Vw M) : M.length ≤ 67108928 := by
  have hr : ∀ a ∈ M.map (·.1), 0 ≤ a.1 ∧ a.1 < 64 ∧ 1 ≤ a.2 ∧ a.2 ≤ 1048576 := fun a ha => by
    obtain ⟨x, hx, rfl⟩ := List.mem_map.1 ha
    have := (rightD_iff x).1 (h.2 x hx)
    omega
  have hn : ((M.map (·.1)).map acN).Nodup := by
    have h1 := h.1.nodup
    rw [List.nodup_iff_pairwise_ne] at h1 ⊢
    rw [List.pairwise_map]
    refine h1.imp_of_mem fun {a b} ha hb hne he => hne ?_
    have h2 := hr a ha
    have h3 := hr b hb
    unfold acN at he
    exact ac_ext (by omega) (by omega)
  have := nodup_len 67108928 _ hn fun x hx => by
    obtain ⟨a, ha, rfl⟩ := List.mem_map.1 hx
    have := hr a ha
    unfold acN
    omega
  simpa using this
end Go.Proofs.Ytailbppddnegoaa
