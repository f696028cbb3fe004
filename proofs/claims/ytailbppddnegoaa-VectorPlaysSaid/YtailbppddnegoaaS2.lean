/- A row of k cells an element that the call has built, sorted: between the words of append and of the sort. -/
import Derived.Test.YtailbppddnegoaaS1
import Derived.Test.YtailbppddnegoaaE1
import Derived.Shelf.GgSortFunc.InsertionK
namespace Go.Proofs.Ytailbppddnegoaa
open Go.RowKit Go.Sort
set_option linter.unusedVariables false

theorem flatK_list {α : Type} [Inhabited α] (enc : α → List Value) (k : Nat) (hk : ∀ x, (enc x).length = k) (l : List α) : (flatK enc k l.toArray).toList = l.flatMap enc := by
  apply List.ext_getElem?
  intro t
  rw [flatMap_at enc k hk]
  by_cases h : t < l.length * k
  · have h0 : 0 < k := by
      rcases Nat.eq_zero_or_pos k with h' | h'
      · subst h'; simp at h
      · exact h'
    have h1 : t / k < l.length := (Nat.div_lt_iff_lt_mul h0).2 h
    have h2 : t % k < (enc l[t / k]).length := by rw [hk]; exact Nat.mod_lt _ h0
    rw [Array.getElem?_toList, List.getElem?_eq_getElem h1, Option.bind_some, List.getElem?_eq_getElem h2]
    have hs : t < (flatK enc k l.toArray).size := by rw [size_flatK]; simpa using h
    rw [Array.getElem?_eq_getElem hs]
    have := get_flatK enc k l.toArray t (by simpa using h)
    rw [getElem!_pos (flatK enc k l.toArray) t hs] at this
    rw [this]
    congr 1
    have e : l.toArray[t / k]! = l[t / k] := by
      rw [getElem!_pos l.toArray (t / k) (by simpa using h1)]
      simp
    rw [e, getElem!_pos (enc l[t / k]) (t % k) h2]
  · rw [List.getElem?_eq_none (by simpa using h)]
    have h1 : l[t / k]? = none ∨ k = 0 := by
      rcases Nat.eq_zero_or_pos k with h' | h'
      · exact .inr h'
      · exact .inl (List.getElem?_eq_none ((Nat.le_div_iff_mul_le h').2 (by omega)))
    rcases h1 with h1 | h1
    · rw [h1]; rfl
    · subst h1
      cases l[t / 0]? with
      | none => rfl
      | some x =>
        have := List.eq_nil_of_length_eq_zero (hk x)
        simp [this]
/-- What the sort asks of the row. -/
theorem holdsK_of_row {α : Type} [Inhabited α] (enc : α → List Value) (k : Nat) (hk : ∀ x, (enc x).length = k) {w : World} {g : Nat} {cur : Array Value} {e : TypeId} {l : List α} (hb : w.heap[g]? = some (.cells cur e (0, 0))) (ht : cur.toList.take (l.length * k) = l.flatMap enc) : HoldsK enc k w g 0 l.toArray := by
  intro j hj
  have hj' : j < l.length * k := by simpa using hj
  refine ⟨?_, by simp [World.frozen?, hb]⟩
  have h1 : (cur.toList.take (l.length * k))[j]? = (flatK enc k l.toArray).toList[j]? := by rw [ht, flatK_list enc k hk]
  rw [List.getElem?_take_of_lt hj', Array.getElem?_toList, Array.getElem?_toList, Array.getElem?_eq_getElem hj] at h1
  have h2 : w.cell? ⟨g, 0 + j, none⟩ = cur[0 + j]? := by simp [World.cell?, hb]
  rw [h2, Nat.zero_add, h1, getElem!_pos (flatK enc k l.toArray) j hj]
  rfl
theorem heap_sortedK {w : World} {g n : Nat} {os : Array Obj} {cur : Array Value} {e : TypeId} {fr : Nat × Nat} {α : Type} [Inhabited α] (enc : α → List Value) (k : Nat) (d : Array α) (hb : w.heap[g]? = some (.cells cur e fr)) :
    (sortWorldK enc k w g 0 n d os).heap[g]? = some (.cells (putCells id 0 (flatK enc k d) cur) e fr) := by
  have hg : g < w.heap.size := (Array.getElem?_eq_some_iff.1 hb).1
  unfold sortWorldK putRowK
  rw [heap_grow_old _ _ (by simpa [putRow, mapBlock] using hg)]
  simp [putRow, mapBlock, Sort.ahead, Array.getElem?_modify, hb, onCells]
theorem grownBy_sortedK {w : World} {g n : Nat} {os : Array Obj} {α : Type} [Inhabited α] (enc : α → List Value) (k : Nat) (d : Array α) : w.grownBy (sortWorldK enc k w g 0 n d os) (some g) := by
  unfold sortWorldK putRowK
  refine ⟨rfl, rfl, rfl, by simp [putRow, mapBlock], fun j hj hne => ?_⟩
  rw [heap_grow_old _ _ (by simpa [putRow, mapBlock] using hj)]
  have : g ≠ j := fun e => hne (by rw [e])
  simp [putRow, mapBlock, Sort.ahead, Array.getElem?_modify, this]
theorem ownsRow_sortedK {w : World} {base g cap n : Nat} {e : TypeId} {os : Array Obj} {cur : Array Value} {α : Type} [Inhabited α] (enc : α → List Value) (k : Nat) (hk : ∀ x, (enc x).length = k) {ss ts : List α} (hl : ts.length = ss.length) (hbase : base ≤ g) (hb : w.heap[g]? = some (.cells cur e (0, 0)))
    (h1 : ss.length ≤ cap) (h2 : cap ≤ maxLen) (h3 : cur.size = cap * k) :
    (sortWorldK enc k w g 0 n ts.toArray os).ownsRow base e k (.slice (some ⟨g, 0, none⟩) ss.length cap) ss.length (ts.flatMap enc) := by
  refine ⟨by rw [flatMap_len enc k hk, hl], .inr ⟨g, cap, _, rfl, hbase, heap_sortedK enc k ts.toArray hb, h1, h2, by simp [putCells, h3], ?_⟩⟩
  have hle : ss.length * k ≤ cur.size := by rw [h3]; exact Nat.mul_le_mul_right k h1
  apply List.ext_getElem?
  intro j
  by_cases hj : j < ss.length * k
  · have hs : (flatK enc k ts.toArray).size = ss.length * k := by rw [size_flatK]; simp [hl]
    rw [List.getElem?_take_of_lt hj, Array.getElem?_toList, ← flatK_list enc k hk, Array.getElem?_toList]
    simp [putCells, hs, hj, show j < cur.size by omega]
  · rw [List.getElem?_take_eq_none (by omega), List.getElem?_eq_none (by rw [flatMap_len enc k hk, hl]; omega)]
end Go.Proofs.Ytailbppddnegoaa
