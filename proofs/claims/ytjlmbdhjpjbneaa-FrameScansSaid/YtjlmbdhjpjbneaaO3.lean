/- The opener of a [][]byte. -/
import Derived.Test.YtjlmbdhjpjbneaaO
import Derived.Deep.Slices
namespace Go.Proofs.Ytjlmbdhjpjbneaa
open Go.ChangeShapes Go.WideShapes Go.ChangeAt Go.RowKit
set_option linter.unusedVariables false
set_option maxRecDepth 100000

theorem bytes_of_trod {H : Type} {enc : TypeId × Value → H} {W : World} {v : Value} {x : DataW H × List MemPlace} {fuel : Nat}
    (hf : DataW.trod enc Try.prog W 0 (fun _ => true) true fuel 62 [v] = some x) : IsBytes W v := by
  rcases open_ints Try.underlying62 Try.underlying5 (by kernel_rfl) hf with ⟨hcs, _⟩ | ⟨a, n, c, zs, hcs, _, hl, hm, hz, _, hcell, hwz⟩
  · simp at hcs
    subst hcs
    exact ⟨none, 0, 0, [], rfl, Nat.le_refl _, by simp [maxLen], Rd.nil_⟩
  · simp at hcs
    subst hcs
    obtain ⟨bs, hbs⟩ := bv_of_ints (zs.take n) (fun z hz' => hwz z (List.mem_of_mem_take hz'))
    refine ⟨_, n, c, bs, rfl, hl, hm, by simp at hz; rw [hbs, List.length_map, List.length_take]; omega, fun hn => ?_⟩
    have hn' : 0 < n := by omega
    have hc0 := hcell 0 (by simp at hz; omega)
    obtain ⟨b, off, spot⟩ := a
    have hspot : spot = none := by simpa [Addr.add] using World.cell?_spot hc0
    subst hspot
    have hlt : b < W.heap.size := by
      rcases Nat.lt_or_ge b W.heap.size with hlt | hge
      · exact hlt
      · simp [World.cell?, Addr.add, Array.getElem?_eq_none hge] at hc0
    refine ⟨b, off, rfl, hlt, fun j u hu => ?_⟩
    rw [hbs, List.getElem?_map] at hu
    have hj : j < n := by
      rcases Nat.lt_or_ge j n with hj | hj
      · exact hj
      · rw [List.getElem?_eq_none (by simp; omega)] at hu; cases hu
    have hjz : j < zs.length := by simp at hz; omega
    rw [List.getElem?_take, if_pos hj, List.getElem?_eq_getElem hjz] at hu
    have := hcell j (by omega)
    have e0 : (⟨b, off, none⟩ : Addr).add j = ⟨b, off + j, none⟩ := by by_cases hj : j = 0 <;> simp [Addr.add, hj]
    rw [e0] at this
    rw [this, ← hu]
    simp [List.getD, List.getElem?_eq_getElem hjz]
/-- One row of a [][]byte: address, length, capacity, bytes. -/
structure Row1 where
  A : Option Addr
  n : Nat
  c : Nat
  l : List UInt8
def Row1.val (r : Row1) : Value := .slice r.A r.n r.c
def Row1.ok (r : Row1) (w : World) : Prop := r.n ≤ r.c ∧ r.c ≤ maxLen ∧ Rd w w.heap.size 1 r.A r.n (bv r.l)
instance : Inhabited Row1 := ⟨⟨none, 0, 0, []⟩⟩
/-- What the walk is told of a slice of one-cell elements. -/
def IsRows (w : World) (v : Value) : Prop := ∃ A n c, ∃ F : Nat → Row1, v = .slice A n c ∧ n ≤ c ∧ c ≤ maxLen ∧ Rd w w.heap.size 1 A n ((List.range n).map fun i => (F i).val) ∧ ∀ i, i < n → (F i).ok w
/-- A slice whose elements are one cell each, read as a family. -/
theorem rd_of_cells {W : World} {a : Addr} {n m : Nat} {V : Nat → Value} (hm : n ≤ m) (h : ∀ i, i < m → W.cell? (a.add i) = some (V i)) : Rd W W.heap.size 1 (some a) n ((List.range n).map V) := by
  refine ⟨by simp, fun hn => ?_⟩
  have hc0 := h 0 (by omega)
  obtain ⟨b, off, spot⟩ := a
  have hspot : spot = none := by simpa [Addr.add] using World.cell?_spot hc0
  subst hspot
  have hlt : b < W.heap.size := by
    rcases Nat.lt_or_ge b W.heap.size with hlt | hge
    · exact hlt
    · simp [World.cell?, Addr.add, Array.getElem?_eq_none hge] at hc0
  refine ⟨b, off, rfl, hlt, fun j u hu => ?_⟩
  have hj : j < n := by
    rcases Nat.lt_or_ge j n with hj | hj
    · exact hj
    · rw [List.getElem?_eq_none (by simp; omega)] at hu; cases hu
  have := h j (by omega)
  have e0 : (⟨b, off, none⟩ : Addr).add j = ⟨b, off + j, none⟩ := by by_cases hj : j = 0 <;> simp [Addr.add, hj]
  rw [e0] at this
  rw [this, ← hu]
  simp [List.getElem?_range hj]
theorem open_rows {H : Type} {enc : TypeId × Value → H} {W : World} {base : Nat} {v : Value} {d : DataW H} {p : List MemPlace} (hv : Value.okWide Try.prog W .any base 94 v)
    (h : DataW.Trod enc Try.prog W 0 (fun _ => true) true 94 v d p) : IsRows W v := by
  obtain ⟨A, n, c, rfl⟩ := okWide_slice Try.underlying94 hv
  obtain ⟨fuel, hf⟩ := h
  rcases Deep.open_slice1 Try.underlying94 (by kernel_rfl) hf with ⟨hcs, _⟩ | ⟨a, n', c', m, k, V, D, Pl, hcs, _, hl, hm, hmm, _, hx⟩
  · simp [Value.cells] at hcs
    obtain ⟨rfl, rfl, rfl⟩ := hcs
    exact ⟨none, 0, 0, fun _ => default, rfl, Nat.le_refl _, by simp [maxLen], Rd.nil_, fun i hi => absurd hi (by omega)⟩
  · simp [Value.cells] at hcs
    obtain ⟨rfl, rfl, rfl⟩ := hcs
    have hnm : n ≤ m := by simp at hmm; omega
    obtain ⟨F, hF⟩ := Deep.choose_lt (α := Row1) (n := n) (p := fun i r => V i = r.val ∧ r.ok W) (fun i hi => by
      obtain ⟨A, n1, c1, l, hv, h1, h2, h3⟩ := bytes_of_trod (hx i (by omega)).2
      exact ⟨⟨A, n1, c1, l⟩, hv, h1, h2, h3⟩)
    refine ⟨some a, n, c, F, rfl, hl, hm, ?_, fun i hi => (hF i hi).2⟩
    have := rd_of_cells hnm (fun i hi => (hx i hi).1)
    have e : (List.range n).map V = (List.range n).map fun i => (F i).val := List.map_congr_left fun i hi => (hF i (by simpa using hi)).1
    rw [e] at this
    exact this
end Go.Proofs.Ytjlmbdhjpjbneaa
