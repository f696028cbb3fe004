/- The openers: what the walk is told of an argument, out of how it reads. -/
import Derived.Test.YtailbppddnegoaaWW
import Derived.Test.YtailbppddnegoaaRows
namespace Go.Proofs.Ytailbppddnegoaa
open Go.ChangeShapes Go.WideShapes Go.ChangeAt Go.RowKit
open Go.ChangeMaps (open_string shut_string)
set_option linter.unusedVariables false
set_option maxRecDepth 100000

/-- What the walk is told of a []byte. -/
def IsBytes (w : World) (v : Value) : Prop := ∃ A n c l, v = .slice A n c ∧ n ≤ c ∧ c ≤ maxLen ∧ Rd w w.heap.size 1 A n (bv l)
theorem bv_of_ints (zs : List Int) (h : ∀ n ∈ zs, (Lit.int .u8 n).wf = true) : ∃ l : List UInt8, bv l = zs.map (Value.int .u8) := by
  refine ⟨zs.map fun z => UInt8.ofNat z.toNat, ?_⟩
  simp only [bv, List.map_map]
  apply List.map_congr_left
  intro z hz
  have := bounds_u8 (h z hz)
  simp
  omega
theorem open_bytes {H : Type} {enc : TypeId × Value → H} {W : World} {base : Nat} {v : Value} {d : DataW H} {p : List MemPlace} (hv : Value.okWide Try.prog W .any base 78 v)
    (h : DataW.Trod enc Try.prog W 0 (fun _ => true) true 78 v d p) : IsBytes W v := by
  obtain ⟨A, n, c, rfl⟩ := okWide_slice Try.underlying78 hv
  have k0 := h
  obtain ⟨fuel, hf⟩ := h
  rcases open_ints Try.underlying78 Try.underlying5 (by kernel_rfl) hf with ⟨hcs, _⟩ | ⟨x, l, c', zs, hcs, hp, hl, hm, hz, _, hcell, hwz⟩
  · simp [Value.cells] at hcs
    obtain ⟨rfl, rfl, rfl⟩ := hcs
    exact ⟨none, 0, 0, [], rfl, Nat.le_refl _, by simp [maxLen], Rd.nil_⟩
  · simp [Value.cells] at hcs
    obtain ⟨rfl, rfl, rfl⟩ := hcs
    obtain ⟨bs, hbs⟩ := bv_of_ints (zs.take n) (fun z hz' => hwz z (List.mem_of_mem_take hz'))
    refine ⟨_, n, c, bs, rfl, hl, hm, by simp at hz; rw [hbs, List.length_map, List.length_take]; omega, fun hn => ?_⟩
    have hn' : 0 < n := by omega
    have hc0 := hcell 0 (by simp at hz; omega)
    obtain ⟨b, off, spot⟩ := x
    have hspot : spot = none := by simpa [Addr.add] using World.cell?_spot hc0
    subst hspot
    have hlt : b < W.heap.size := by
      rcases Nat.lt_or_ge b W.heap.size with hlt | hge
      · exact hlt
      · simp [World.cell?, Addr.add, Array.getElem?_eq_none hge] at hc0
    refine ⟨b, off, rfl, hlt, fun j u hu => ?_⟩
    rw [hbs, List.getElem?_map] at hu
    have hj : j < n := by
      rcases Nat.lt_or_ge j n with hj | hj
      · exact hj
      · rw [List.getElem?_eq_none (by simp; omega)] at hu; cases hu
    have hjz : j < zs.length := by simp at hz; omega
    rw [List.getElem?_take, if_pos hj, List.getElem?_eq_getElem hjz] at hu
    have := hcell j (by omega)
    have e0 : (⟨b, off, none⟩ : Addr).add j = ⟨b, off + j, none⟩ := by by_cases hj : j = 0 <;> simp [Addr.add, hj]
    rw [e0] at this
    rw [this, ← hu]
    simp [List.getD, List.getElem?_eq_getElem hjz]
end Go.Proofs.Ytailbppddnegoaa
