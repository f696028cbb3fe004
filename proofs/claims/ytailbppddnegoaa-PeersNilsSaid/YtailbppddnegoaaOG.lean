/- Slices of whatever, opened: a list of elements, each as its cells. -/
import Derived.Test.YtailbppddnegoaaO
import Derived.Test.YtailbppddnegoaaWW
import Derived.Deep.Slices
import Derived.Deep.Strs
namespace Go.Proofs.Ytailbppddnegoaa
open Go.ChangeShapes Go.WideShapes Go.ChangeAt Go.RowKit Go.Deep
set_option linter.unusedVariables false
set_option maxRecDepth 100000

theorem flatMap_atG {α : Type} (C : α → List Value) (k : Nat) (hk : 0 < k) (hC : ∀ x, (C x).length = k) : ∀ (L : List α) (j : Nat), (L.flatMap C)[j]? = (L[j / k]?).bind fun x => (C x)[j % k]?
  | [], j => by simp
  | x :: r, j => by
    rw [List.flatMap_cons]
    by_cases h : j < k
    · rw [List.getElem?_append_left (by rw [hC]; exact h), Nat.div_eq_of_lt h, Nat.mod_eq_of_lt h]
      simp
    · rw [List.getElem?_append_right (by rw [hC]; omega), hC, flatMap_atG C k hk hC r (j - k)]
      have e : j / k = (j - k) / k + 1 := by rw [← Nat.sub_add_cancel (show k ≤ j by omega), Nat.add_div_right _ hk]; simp
      rw [e, List.getElem?_cons_succ, show (j - k) % k = j % k from (Nat.mod_eq_sub_mod (by omega)).symm]
theorem flatMap_lenG {α : Type} (C : α → List Value) (k : Nat) (hC : ∀ x, (C x).length = k) (L : List α) : (L.flatMap C).length = L.length * k := by
  induction L with
  | nil => simp
  | cons x r ih => rw [List.flatMap_cons, List.length_append, hC, ih, List.length_cons, Nat.succ_mul, Nat.add_comm]
theorem addr_addG (b x y : Nat) : (⟨b, x, none⟩ : Addr).add y = ⟨b, x + y, none⟩ := by by_cases hy : y = 0 <;> simp [Addr.add, hy]
/-- The elements of a slice, read where they lie. -/
theorem elems_of_trod {H : Type} {enc : TypeId × Value → H} {W : World} {P : Program} {t e : TypeId} {k : Nat} {X : Type} (C : X → List Value) (Ok : X → Prop) (y0 : X) (ht : P.underlying t = some (.slice e)) (hC : P.cellsOf e = k) (hk : 0 < k) (hl : ∀ y, (C y).length = k)
    (hel : ∀ fuel cs x, DataW.trod enc P W 0 (fun _ => true) true fuel e cs = some x → ∃ y, cs = C y ∧ Ok y)
    {fuel : Nat} {cs : List Value} {x : DataW H × List MemPlace} (hf : DataW.trod enc P W 0 (fun _ => true) true fuel t cs = some x) :
    ∃ A c, ∃ L : List X, cs = [.slice A L.length c] ∧ L.length ≤ c ∧ c ≤ maxLen ∧ Rd W W.heap.size k A L.length (L.flatMap C) ∧ ∀ y ∈ L, Ok y := by
  rcases open_slice ht hf with ⟨hcs, _⟩ | ⟨a, len, cp, m, n', D, Pl, hcs, _, hln, hm, hmm, _, hi⟩
  · exact ⟨none, 0, [], hcs, Nat.le_refl _, by simp [maxLen], ⟨by simp, fun h => absurd h (by simp)⟩, by simp⟩
  · simp at hmm
    subst hmm
    have hF : ∀ i, ∃ y : X, i < len → Ok y ∧ ∀ j, j < k → W.cell? ((a.add (i * k)).add j) = (C y)[j]? := by
      intro i
      by_cases hin : i < len
      · obtain ⟨cs', hc, ht'⟩ := hi i (by omega)
        rw [hC] at hc
        obtain ⟨_, hcl, hat⟩ := World.cells?_some hc
        obtain ⟨y, rfl, hy⟩ := hel _ _ _ ht'
        exact ⟨y, fun _ => ⟨hy, fun j hj => hat j hj⟩⟩
      · exact ⟨y0, fun h => absurd h hin⟩
    obtain ⟨F, hF⟩ := Classical.axiomOfChoice hF
    have hlen : ((List.range len).map F).length = len := by simp
    refine ⟨some a, _, (List.range len).map F, by rw [hlen]; exact hcs, by rw [hlen]; exact hln, hm, ⟨by rw [flatMap_lenG C k hl], fun hn => ?_⟩, fun y hy => ?_⟩
    · rw [hlen] at hn
      have hn0 : 0 < len := Nat.pos_of_ne_zero fun e => by subst e; simp at hn
      have h0 := ((hF 0) hn0).2 0 hk
      rw [List.getElem?_eq_getElem (by rw [hl]; exact hk)] at h0
      obtain ⟨b, off, spot⟩ := a
      have hspot : spot = none := by simpa [Addr.add] using World.cell?_spot h0
      subst hspot
      have hlt : b < W.heap.size := by
        rcases Nat.lt_or_ge b W.heap.size with hlt | hge
        · exact hlt
        · simp [World.cell?, Addr.add, Array.getElem?_eq_none hge] at h0
      refine ⟨b, off, rfl, hlt, fun j u hu => ?_⟩
      rw [flatMap_atG C k hk hl] at hu
      have hj : j / k < len := by
        rcases Nat.lt_or_ge (j / k) len with h | h
        · exact h
        · rw [List.getElem?_eq_none (by rw [hlen]; exact h)] at hu; cases hu
      rw [List.getElem?_map, List.getElem?_range hj] at hu
      have hc := ((hF (j / k)) hj).2 (j % k) (Nat.mod_lt _ hk)
      rw [addr_addG, addr_addG, Nat.add_assoc, Nat.mul_comm, Nat.div_add_mod] at hc
      rw [hc]
      exact hu
    · obtain ⟨i, hi', rfl⟩ := List.mem_map.1 hy
      exact ((hF i) (by simpa using hi')).1
end Go.Proofs.Ytailbppddnegoaa
