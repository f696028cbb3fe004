/- Layer 1 (bits): slices.Reverse over a slice of the call's own; High; awake. -/
import Derived.Test.YtailbppddnegoaaB3
import Derived.RegionTactic
namespace Go.Proofs.Ytailbppddnegoaa
open Go.RowKit
set_option linter.unusedVariables false
set_option maxRecDepth 100000

/-- The list while it is reversed: i pairs are exchanged. -/
def rvL (l : List UInt8) (i : Nat) : List UInt8 := (List.range l.length).map fun p => if p < i ∨ l.length ≤ p + i then l.getD (l.length - 1 - p) 0 else l.getD p 0
theorem rvL_length (l : List UInt8) (i : Nat) : (rvL l i).length = l.length := by simp [rvL]
theorem rvL_get (l : List UInt8) (i p : Nat) (h : p < l.length) : (rvL l i)[p]? = some (if p < i ∨ l.length ≤ p + i then l.getD (l.length - 1 - p) 0 else l.getD p 0) := by
  simp [rvL, List.getElem?_range h]
theorem getD_of {l : List UInt8} {p : Nat} (h : p < l.length) : l[p]? = some (l.getD p 0) := by simp [List.getD, List.getElem?_eq_getElem h]
theorem rvL_zero (l : List UInt8) : rvL l 0 = l := by
  apply List.ext_getElem?
  intro p
  by_cases h : p < l.length
  · rw [rvL_get l 0 p h, if_neg (by omega), getD_of h]
  · rw [List.getElem?_eq_none (by rw [rvL_length]; omega), List.getElem?_eq_none (by omega)]
theorem rvL_end (l : List UInt8) (i : Nat) (h : l.length ≤ 2 * i + 1) : rvL l i = l.reverse := by
  apply List.ext_getElem?
  intro p
  by_cases hp : p < l.length
  · rw [rvL_get l i p hp, List.getElem?_reverse hp, getD_of (by omega)]
    by_cases hc : p < i ∨ l.length ≤ p + i
    · rw [if_pos hc]
    · rw [if_neg hc]
      have : p = l.length - 1 - p := by omega
      rw [← this]
  · rw [List.getElem?_eq_none (by rw [rvL_length]; omega), List.getElem?_eq_none (by simp; omega)]
theorem rvL_step (l : List UInt8) (i : Nat) (h : i < l.length - 1 - i) :
    ((rvL l i).set i (l.getD (l.length - 1 - i) 0)).set (l.length - 1 - i) (l.getD i 0) = rvL l (i + 1) := by
  apply List.ext_getElem?
  intro p
  by_cases hp : p < l.length
  · rw [rvL_get l (i + 1) p hp, List.getElem?_set, List.getElem?_set]
    simp only [List.length_set, rvL_length]
    by_cases h1 : l.length - 1 - i = p
    · rw [if_pos h1, if_pos (by omega), if_pos (by omega)]
      congr 2
      omega
    · rw [if_neg h1]
      by_cases h2 : i = p
      · subst h2
        rw [if_pos rfl, if_pos (by omega), if_pos (by omega)]
      · rw [if_neg h2, rvL_get l i p hp]
        by_cases hc : p < i ∨ l.length ≤ p + i
        · rw [if_pos hc, if_pos (by omega)]
        · rw [if_neg hc, if_neg (by omega)]
  · rw [List.getElem?_eq_none (by simp [rvL_length]; omega), List.getElem?_eq_none (by rw [rvL_length]; omega)]
theorem bv_set (l : List UInt8) (i : Nat) (c : UInt8) : bv (l.set i c) = (bv l).set i (.int .u8 (c.toNat : Int)) := by simp [bv, List.map_set]

/-- Below 'base' nothing has turned; the slice holds other bytes. -/
def Turned (w : World) (base : Nat) (A : Option Addr) (n c : Nat) (l : List UInt8) (e : Ending) (w' : World) : Prop :=
  e = .returned (.tuple #[]) ∧ Own w' base 5 1 A n c (bv l) ∧ Below base w w'
theorem own_form {w : World} {base n c : Nat} {e : TypeId} {A : Option Addr} {xs : List Value} (h : Own w base e 1 A n c xs) (hn : 0 < n) :
    ∃ g, A = some ⟨g, 0, none⟩ ∧ base ≤ g ∧ g < w.heap.size := by
  rcases h.1.2 with ⟨_, rfl⟩ | ⟨g, cap, cur, hv, h1, h2, _⟩
  · omega
  · injection hv with hA
    subst hA
    exact ⟨g, rfl, h1, (h.1.lt g rfl).2⟩
end Go.Proofs.Ytailbppddnegoaa
