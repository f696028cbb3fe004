/- The opener of a []uint64. -/
import Derived.Test.YtccmifmfegjonaaO
namespace Go.Proofs.Ytccmifmfegjonaa
open Go.ChangeShapes Go.WideShapes Go.ChangeAt Go.RowKit
set_option linter.unusedVariables false

def uv (l : List Nat) : List Value := l.map fun (x : Nat) => Value.int .u64 (x : Int)
/-- What the walk is told of a []uint64. -/
def IsU64s (w : World) (v : Value) : Prop := ∃ A n c l, v = .slice A n c ∧ n ≤ c ∧ c ≤ maxLen ∧ Rd w w.heap.size 1 A n (uv l) ∧ ∀ x ∈ l, x < 18446744073709551616
theorem open_u64s {H : Type} {enc : TypeId × Value → H} {W : World} {base : Nat} {v : Value} {d : DataW H} {p : List MemPlace} (hv : Value.okWide Try.prog W .any base 60 v)
    (h : DataW.Trod enc Try.prog W 0 (fun _ => true) true 60 v d p) : IsU64s W v := by
  obtain ⟨A, n, c, rfl⟩ := okWide_slice Try.underlying60 hv
  obtain ⟨fuel, hf⟩ := h
  rcases open_ints Try.underlying60 Try.underlying22 (by kernel_rfl) hf with ⟨hcs, _⟩ | ⟨x, l, c', zs, hcs, hp, hl, hm, hz, _, hcell, hwz⟩
  · simp [Value.cells] at hcs
    obtain ⟨rfl, rfl, rfl⟩ := hcs
    exact ⟨none, 0, 0, [], rfl, Nat.le_refl _, by simp [maxLen], Rd.nil_, by simp⟩
  · simp [Value.cells] at hcs
    obtain ⟨rfl, rfl, rfl⟩ := hcs
    have hb : uv ((zs.take n).map Int.toNat) = (zs.take n).map (Value.int .u64) := by
      simp only [uv, List.map_map]
      apply List.map_congr_left
      intro z hz'
      have := bounds_u64 (hwz z (List.mem_of_mem_take hz'))
      simp
      omega
    refine ⟨_, n, c, (zs.take n).map Int.toNat, rfl, hl, hm, ⟨by simp at hz; rw [hb, List.length_map, List.length_take]; omega, fun hn => ?_⟩, ?_⟩
    · have hn' : 0 < n := by omega
      have hc0 := hcell 0 (by simp at hz; omega)
      obtain ⟨b, off, spot⟩ := x
      have hspot : spot = none := by simpa [Addr.add] using World.cell?_spot hc0
      subst hspot
      have hlt : b < W.heap.size := by
        rcases Nat.lt_or_ge b W.heap.size with hlt | hge
        · exact hlt
        · simp [World.cell?, Addr.add, Array.getElem?_eq_none hge] at hc0
      refine ⟨b, off, rfl, hlt, fun j u hu => ?_⟩
      rw [hb, List.getElem?_map] at hu
      have hj : j < n := by
        rcases Nat.lt_or_ge j n with hj | hj
        · exact hj
        · rw [List.getElem?_eq_none (by simp; omega)] at hu; cases hu
      have hjz : j < zs.length := by simp at hz; omega
      rw [List.getElem?_take, if_pos hj, List.getElem?_eq_getElem hjz] at hu
      have := hcell j (by omega)
      have e0 : (⟨b, off, none⟩ : Addr).add j = ⟨b, off + j, none⟩ := by by_cases hj : j = 0 <;> simp [Addr.add, hj]
      rw [e0] at this
      rw [this, ← hu]
      simp [List.getD, List.getElem?_eq_getElem hjz]
    · intro x hx
      simp only [List.mem_map] at hx
      obtain ⟨z, hz', rfl⟩ := hx
      have := bounds_u64 (hwz z (List.mem_of_mem_take hz'))
      omega
end Go.Proofs.Ytccmifmfegjonaa
