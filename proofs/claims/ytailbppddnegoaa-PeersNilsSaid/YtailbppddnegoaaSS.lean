/- Merged: E1, S1, S2. -/
import Derived.Test.YtailbppddnegoaaMA
import Derived.Test.YtailbppddnegoaaWW
import Derived.Test.YtailbppddnegoaaDD
import Derived.Sort.Grow
import Derived.Shelf.GgSortFunc.InsertionK
/- Dots, or marks, as cells: a slice that reads as a list of them. -/
namespace Go.Proofs.Ytailbppddnegoaa
open Go.RowKit
set_option linter.unusedVariables false
set_option maxRecDepth 100000

theorem flatMap_at {α : Type} (enc : α → List Value) (k : Nat) (hk : ∀ x, (enc x).length = k) (l : List α) (t : Nat) : (l.flatMap enc)[t]? = (l[t / k]?).bind fun x => (enc x)[t % k]? := by
  induction l generalizing t with
  | nil => simp
  | cons x r ih =>
    rw [List.flatMap_cons]
    by_cases h : t < k
    · rw [List.getElem?_append_left (by rw [hk]; exact h), Nat.div_eq_of_lt h, Nat.mod_eq_of_lt h]
      rfl
    · have hk0 : 0 < k ∨ k = 0 := by omega
      rcases hk0 with hk0 | hk0
      · obtain ⟨u, rfl⟩ : ∃ u, t = u + k := ⟨t - k, by omega⟩
        rw [List.getElem?_append_right (by rw [hk]; omega), hk, Nat.add_sub_cancel, ih, Nat.add_div_right _ hk0, Nat.add_mod_right]
        rfl
      · subst hk0
        have hz : ∀ y, enc y = [] := fun y => List.eq_nil_of_length_eq_zero (hk y)
        rw [hz, List.nil_append, ih]
        simp [hz]
theorem flatMap_len {α : Type} (enc : α → List Value) (k : Nat) (hk : ∀ x, (enc x).length = k) (l : List α) : (l.flatMap enc).length = l.length * k := by
  induction l with
  | nil => simp
  | cons x r ih => rw [List.flatMap_cons, List.length_append, ih, hk, List.length_cons, Nat.add_mul]; omega
theorem wf_of {n : Int} (h1 : -9223372036854775808 ≤ n) (h2 : n ≤ 9223372036854775807) : (Lit.int .i64 n).wf = true := by
  have e1 : IntKind.i64.min = -9223372036854775808 := by decide
  have e2 : IntKind.i64.max = 9223372036854775807 := by decide
  simp only [Lit.wf, e1, e2, Bool.and_eq_true, decide_eq_true_eq]
  exact ⟨h1, h2⟩
/-- Dots, or marks, as cells. -/
def dts (L : List Dt) : List Value := L.flatMap dtC
theorem dtC_len (x : Dt) : (dtC x).length = 3 := rfl
theorem dts_len (L : List Dt) : (dts L).length = L.length * 3 := flatMap_len dtC 3 dtC_len L
theorem dts_get {L : List Dt} {i : Nat} {x : Dt} (h : L[i]? = some x) : (dts L)[i * 3]? = some (.int .i64 x.1.1) ∧ (dts L)[i * 3 + 1]? = some (.int .i64 x.1.2) ∧ (dts L)[i * 3 + 2]? = some (.int .i64 x.2) := by
  have e := flatMap_at dtC 3 dtC_len L
  unfold dts
  rw [e, e, e, show i * 3 / 3 = i by omega, show (i * 3 + 1) / 3 = i by omega, show (i * 3 + 2) / 3 = i by omega, show i * 3 % 3 = 0 by omega, show (i * 3 + 1) % 3 = 1 by omega, show (i * 3 + 2) % 3 = 2 by omega, h]
  exact ⟨rfl, rfl, rfl⟩
/-- A slice that reads as dots (or marks). -/
def Ds (w : World) (B : Nat) (A : Option Addr) (L : List Dt) : Prop := Rd w B 3 A L.length (dts L)
theorem Ds.below {w w' : World} {B : Nat} {A : Option Addr} {L : List Dt} (h : Ds w B A L) (hb : Below B w w') : Ds w' B A L := Rd.below h hb
theorem Ds.more {w : World} {B B' : Nat} {A : Option Addr} {L : List Dt} (h : Ds w B A L) (hb : B ≤ B') : Ds w B' A L := Rd.more h hb
theorem Ds.at_ {w : World} {B i : Nat} {A : Option Addr} {L : List Dt} {x : Dt} (h : Ds w B A L) (hx : L[i]? = some x) : ∃ b o, A = some ⟨b, o, none⟩ ∧ b < B ∧ w.cell? ⟨b, o + i * 3, none⟩ = some (.int .i64 x.1.1) ∧ w.cell? ⟨b, o + i * 3 + 1, none⟩ = some (.int .i64 x.1.2) ∧ w.cell? ⟨b, o + i * 3 + 2, none⟩ = some (.int .i64 x.2) := by
  have hi : i < L.length := (List.getElem?_eq_some_iff.1 hx).1
  obtain ⟨b, o, hA, hb, hc⟩ := h.2 (by omega)
  obtain ⟨e0, e1, e2⟩ := dts_get hx
  exact ⟨b, o, hA, hb, hc _ _ e0, by rw [Nat.add_assoc]; exact hc _ _ e1, by rw [Nat.add_assoc]; exact hc _ _ e2⟩
theorem Own.ds {w : World} {base c : Nat} {e : TypeId} {A : Option Addr} {L : List Dt} (h : Own w base e 3 A L.length c (dts L)) : Ds w w.heap.size A L := h.rd
end Go.Proofs.Ytailbppddnegoaa
/- Comparing actors, dots: no draw is lost (slices.SortFunc wants to know). -/
namespace Go.Proofs.Ytailbppddnegoaa
open Go.RowKit Go.Sort
set_option linter.unusedVariables false
set_option maxRecDepth 100000

/-- As Below, and no draw is lost. -/
def UpN (n : Nat) (w w' : World) : Prop := Below n w w' ∧ w.drawn ≤ w'.drawn
theorem UpN.refl (n : Nat) (w : World) : UpN n w w := ⟨Below.refl _ _, Nat.le_refl _⟩
theorem UpN.drew {n : Nat} {w w' : World} (h : UpN n w w') : UpN n w w'.drew := ⟨h.1.drew, by have := h.2; show w.drawn ≤ w'.drawn + 1; omega⟩
theorem UpN.alloc {n : Nat} {w w' : World} (h : UpN n w w') (hn : n ≤ w'.heap.size) (o : Obj) : UpN n w (w'.alloc o) := ⟨h.1.alloc hn o, h.2⟩
theorem UpN.trans {n : Nat} {w w1 w2 : World} (h : UpN n w w1) (k : UpN n w1 w2) : UpN n w w2 := ⟨h.1.trans k.1, Nat.le_trans h.2 k.2⟩
theorem UpN.le {n m : Nat} {w w' : World} (h : UpN n w w') (hm : m ≤ n) : UpN m w w' := ⟨below_of_le h.1 hm, h.2⟩
theorem UpN.grow {w w' : World} (h : UpN w.heap.size w w') : ∃ q os, w' = Go.Sort.grow (w.drewN q) os := by
  refine ⟨w'.drawn - w.drawn, w'.heap.extract w.heap.size w'.heap.size, ?_⟩
  have hd := h.2
  have hs := h.1.size
  have e : w'.heap = w.heap ++ w'.heap.extract w.heap.size w'.heap.size := by
    apply Array.ext_getElem?
    intro i
    by_cases hi : i < w.heap.size
    · rw [h.1.block i hi, Array.getElem?_append_left hi]
    · rw [Array.getElem?_append_right (by omega), Array.getElem?_extract]
      split
      · congr 1; omega
      · rw [Array.getElem?_eq_none (by omega)]
  cases w' with
  | mk heap tape drawn os output =>
    cases w with
    | mk heap0 tape0 drawn0 os0 output0 =>
      obtain ⟨h1, h2, h3, h4, h5⟩ := h.1
      simp only at h1 h2 h3 hd e
      subst h1 h2 h3
      unfold Go.Sort.grow World.drewN
      simp only [World.mk.injEq, and_true, true_and]
      exact ⟨e, by omega⟩
theorem up_boxes (w : World) (t : TypeId) (xs ys : Array Value) : UpN w.heap.size w ((w.alloc (.cells xs t)).alloc (.cells ys t)) :=
  ((UpN.refl _ w).alloc (Nat.le_refl _) _).alloc (by simp) _
theorem compare_up (d i d' i' : Int) (w : World) : Calls Try.prog 106 #[actV d i, actV d' i'] w fun e w' => e = .returned (.int .i64 (orI (cmpI d d') (cmpI i i'))) ∧ UpN w.heap.size w w' := by
  have C1 := Lib.hid (fun w => cmpc_any d d' w)
  have C2 := Lib.hid (fun w => cmpc_any i i' w)
  have C3 := Lib.hid (fun g c B w hr => or2_any (cmpI d d') (cmpI i i') g c B w hr)
  generalize cmpI d d' = x at *
  generalize cmpI i i' = y at *
  unfold actV
  have hB := boxes_new w 25 #[.int .i64 d, .int .i64 i] #[.int .i64 d', .int .i64 i']
  have hU := Lib.hid (up_boxes w 25 #[.int .i64 d, .int .i64 i] #[.int .i64 d', .int .i64 i'])
  have hBH := Lib.hid hB
  clear hB
  go_enter Try.func106, Try.ntmps106
  go_wp2_with fail
  obtain ⟨hb, hs, h1, h2⟩ := hBH.out
  clear hb hBH
  generalize (w.alloc (.cells #[.int .i64 d, .int .i64 i] 25)).alloc (.cells #[.int .i64 d', .int .i64 i'] 25) = W at *
  have c0 : W.cell? ⟨w.heap.size, 0, none⟩ = some (.int .i64 d) := by rw [h1.cell]; rfl
  have c1 : W.cell? ⟨w.heap.size, 1, none⟩ = some (.int .i64 i) := by rw [h1.cell]; rfl
  have c2 : W.cell? ⟨w.heap.size + 1, 0, none⟩ = some (.int .i64 d') := by rw [h2.cell]; rfl
  have c3 : W.cell? ⟨w.heap.size + 1, 1, none⟩ = some (.int .i64 i') := by rw [h2.cell]; rfl
  go_still_tail 10, (by kernel_rfl)
  still_call (stillL (C1.out _))
  repeat still_step
  still_call (stillL (C2.out _))
  repeat still_step
  refine wpStill_nil ?_
  change wpList _ _ _ _ _ W.drew
  clear c0 c1 c2 c3 h1 h2
  have hBl2 := Lib.hid (hU.out.drew)
  clear hU
  generalize W.drew = W2 at *
  go_wp2_with fail
  refine (C3.out W2.heap.size 2 _ _ (Rd.fresh _ _ _ 2 rfl)).mono ?_; rintro e w3 ⟨rfl, rfl⟩
  go_wp2
  go_ret
  exact ⟨rfl, hBl2.out.alloc hBl2.out.1.size _⟩
/-- Two boxed dots, as cells. -/
def TwoUp (n : Nat) (d i s d' i' s' : Int) (w W : World) : Prop :=
  UpN n w W ∧ n + 2 ≤ W.heap.size ∧ W.cell? ⟨n, 0, none⟩ = some (.int .i64 d) ∧ W.cell? ⟨n, 1, none⟩ = some (.int .i64 i) ∧ W.cell? ⟨n, 2, none⟩ = some (.int .i64 s) ∧
    W.cell? ⟨n + 1, 0, none⟩ = some (.int .i64 d') ∧ W.cell? ⟨n + 1, 1, none⟩ = some (.int .i64 i') ∧ W.cell? ⟨n + 1, 2, none⟩ = some (.int .i64 s')
theorem TwoUp.step {n : Nat} {d i s d' i' s' : Int} {w W W' : World} (h : TwoUp n d i s d' i' s' w W) (b : UpN W.heap.size W W') : TwoUp n d i s d' i' s' w W' := by
  obtain ⟨h0, h1, c0, c1, c2, c3, c4, c5⟩ := h
  have hb := b.1.size
  refine ⟨h0.trans (b.le (by omega)), by omega, ?_, ?_, ?_, ?_, ?_, ?_⟩
  all_goals
    rw [b.1.cell (by simp only; omega)]
    assumption
theorem TwoUp.new (w : World) (d i s d' i' s' : Int) (t : TypeId) : TwoUp w.heap.size d i s d' i' s' w ((w.alloc (.cells #[.int .i64 d, .int .i64 i, .int .i64 s] t)).alloc (.cells #[.int .i64 d', .int .i64 i', .int .i64 s'] t)) := by
  obtain ⟨h0, h1, h2, h3⟩ := boxes_new w t #[.int .i64 d, .int .i64 i, .int .i64 s] #[.int .i64 d', .int .i64 i', .int .i64 s']
  refine ⟨up_boxes _ _ _ _, by omega, ?_, ?_, ?_, ?_, ?_, ?_⟩
  all_goals first | (rw [h2.cell]; rfl) | (rw [h3.cell]; rfl)
theorem order_up (d i s d' i' s' : Int) (w : World) : Calls Try.prog 92 #[dotV d i s, dotV d' i' s'] w fun e w' => e = .returned (.int .i64 (ordI d i s d' i' s')) ∧ UpN w.heap.size w w' := by
  have C1 := Lib.hid (fun n W (h : TwoUp n d i s d' i' s' w W) => (compare_up d i d' i' W).mono fun e w' (h' : e = _ ∧ UpN W.heap.size W w') => And.intro h'.1 (h.step h'.2))
  have C2 := Lib.hid (fun w => cmpc_any s s' w)
  have C3 := Lib.hid (fun g c B w hr => or2_any (orI (cmpI d d') (cmpI i i')) (cmpI s s') g c B w hr)
  unfold ordI
  generalize orI (cmpI d d') (cmpI i i') = x at *
  generalize cmpI s s' = y at *
  unfold actV at C1
  unfold dotV
  have hB := Lib.hid (TwoUp.new w d i s d' i' s' 27)
  go_enter Try.func92, Try.ntmps92
  go_wp2_with fail
  have hT := hB.out
  clear hB
  generalize (w.alloc (.cells #[.int .i64 d, .int .i64 i, .int .i64 s] 27)).alloc (.cells #[.int .i64 d', .int .i64 i', .int .i64 s'] 27) = W at *
  generalize hn : w.heap.size = n at *
  obtain ⟨h0, h1, c0, c1, c2, c3, c4, c5⟩ := hT
  go_region_held3 (fun W => UpN n w W ∧ n + 2 ≤ W.heap.size ∧ W.cell? ⟨n, 0, none⟩ = some (.int .i64 d) ∧ W.cell? ⟨n, 1, none⟩ = some (.int .i64 i) ∧ W.cell? ⟨n, 2, none⟩ = some (.int .i64 s) ∧
    W.cell? ⟨n + 1, 0, none⟩ = some (.int .i64 d') ∧ W.cell? ⟨n + 1, 1, none⟩ = some (.int .i64 i') ∧ W.cell? ⟨n + 1, 2, none⟩ = some (.int .i64 s')) (first | assumption | exact ⟨by assumption, by assumption, by assumption, by assumption, by assumption, by assumption, by assumption, by assumption⟩ | exact TwoUp.step ⟨by assumption, by assumption, by assumption, by assumption, by assumption, by assumption, by assumption, by assumption⟩ (UpN.alloc (UpN.refl _ _) (Nat.le_refl _) _) | exact TwoUp.step ⟨by assumption, by assumption, by assumption, by assumption, by assumption, by assumption, by assumption, by assumption⟩ (UpN.drew (UpN.refl _ _))) ((first | (go_at_call 106; refine (C1.out n _ (by first | assumption | exact ⟨by assumption, by assumption, by assumption, by assumption, by assumption, by assumption, by assumption, by assumption⟩)).mono ?_; rintro e w1 ⟨rfl, s0, s1, s2, s3, s4, s5, s6, s7⟩) | (go_at_call 121; refine (C2.out _).mono ?_; rintro e w1 ⟨rfl, rfl⟩) | (go_at_call 120; refine (C3.out _ _ _ _ (Rd.fresh _ _ _ 2 rfl)).mono ?_; rintro e w1 ⟨rfl, rfl⟩)))
  refine (by assumption : ∀ (a : Act) (w : World), _ → _) _ _ ?_
  go_wp2
  go_ret
  have hz := (by assumption : UpN n w _ ∧ n + 2 ≤ _ ∧ _)
  exact ⟨rfl, hn ▸ hz.1⟩
end Go.Proofs.Ytailbppddnegoaa
/- A row of k cells an element that the call has built, sorted: between the words of append and of the sort. -/
namespace Go.Proofs.Ytailbppddnegoaa
open Go.RowKit Go.Sort
set_option linter.unusedVariables false

theorem flatK_list {α : Type} [Inhabited α] (enc : α → List Value) (k : Nat) (hk : ∀ x, (enc x).length = k) (l : List α) : (flatK enc k l.toArray).toList = l.flatMap enc := by
  apply List.ext_getElem?
  intro t
  rw [flatMap_at enc k hk]
  by_cases h : t < l.length * k
  · have h0 : 0 < k := by
      rcases Nat.eq_zero_or_pos k with h' | h'
      · subst h'; simp at h
      · exact h'
    have h1 : t / k < l.length := (Nat.div_lt_iff_lt_mul h0).2 h
    have h2 : t % k < (enc l[t / k]).length := by rw [hk]; exact Nat.mod_lt _ h0
    rw [Array.getElem?_toList, List.getElem?_eq_getElem h1, Option.bind_some, List.getElem?_eq_getElem h2]
    have hs : t < (flatK enc k l.toArray).size := by rw [size_flatK]; simpa using h
    rw [Array.getElem?_eq_getElem hs]
    have := get_flatK enc k l.toArray t (by simpa using h)
    rw [getElem!_pos (flatK enc k l.toArray) t hs] at this
    rw [this]
    congr 1
    have e : l.toArray[t / k]! = l[t / k] := by
      rw [getElem!_pos l.toArray (t / k) (by simpa using h1)]
      simp
    rw [e, getElem!_pos (enc l[t / k]) (t % k) h2]
  · rw [List.getElem?_eq_none (by simpa using h)]
    have h1 : l[t / k]? = none ∨ k = 0 := by
      rcases Nat.eq_zero_or_pos k with h' | h'
      · exact .inr h'
      · exact .inl (List.getElem?_eq_none ((Nat.le_div_iff_mul_le h').2 (by omega)))
    rcases h1 with h1 | h1
    · rw [h1]; rfl
    · subst h1
      cases l[t / 0]? with
      | none => rfl
      | some x =>
        have := List.eq_nil_of_length_eq_zero (hk x)
        simp [this]
/-- What the sort asks of the row. -/
theorem holdsK_of_row {α : Type} [Inhabited α] (enc : α → List Value) (k : Nat) (hk : ∀ x, (enc x).length = k) {w : World} {g : Nat} {cur : Array Value} {e : TypeId} {l : List α} (hb : w.heap[g]? = some (.cells cur e (0, 0))) (ht : cur.toList.take (l.length * k) = l.flatMap enc) : HoldsK enc k w g 0 l.toArray := by
  intro j hj
  have hj' : j < l.length * k := by simpa using hj
  refine ⟨?_, by simp [World.frozen?, hb]⟩
  have h1 : (cur.toList.take (l.length * k))[j]? = (flatK enc k l.toArray).toList[j]? := by rw [ht, flatK_list enc k hk]
  rw [List.getElem?_take_of_lt hj', Array.getElem?_toList, Array.getElem?_toList, Array.getElem?_eq_getElem hj] at h1
  have h2 : w.cell? ⟨g, 0 + j, none⟩ = cur[0 + j]? := by simp [World.cell?, hb]
  rw [h2, Nat.zero_add, h1, getElem!_pos (flatK enc k l.toArray) j hj]
  rfl
theorem heap_sortedK {w : World} {g n : Nat} {os : Array Obj} {cur : Array Value} {e : TypeId} {fr : Nat × Nat} {α : Type} [Inhabited α] (enc : α → List Value) (k : Nat) (d : Array α) (hb : w.heap[g]? = some (.cells cur e fr)) :
    (sortWorldK enc k w g 0 n d os).heap[g]? = some (.cells (putCells id 0 (flatK enc k d) cur) e fr) := by
  have hg : g < w.heap.size := (Array.getElem?_eq_some_iff.1 hb).1
  unfold sortWorldK putRowK
  rw [heap_grow_old _ _ (by simpa [putRow, mapBlock] using hg)]
  simp [putRow, mapBlock, Sort.ahead, Array.getElem?_modify, hb, onCells]
theorem grownBy_sortedK {w : World} {g n : Nat} {os : Array Obj} {α : Type} [Inhabited α] (enc : α → List Value) (k : Nat) (d : Array α) : w.grownBy (sortWorldK enc k w g 0 n d os) (some g) := by
  unfold sortWorldK putRowK
  refine ⟨rfl, rfl, rfl, by simp [putRow, mapBlock], fun j hj hne => ?_⟩
  rw [heap_grow_old _ _ (by simpa [putRow, mapBlock] using hj)]
  have : g ≠ j := fun e => hne (by rw [e])
  simp [putRow, mapBlock, Sort.ahead, Array.getElem?_modify, this]
theorem ownsRow_sortedK {w : World} {base g cap n : Nat} {e : TypeId} {os : Array Obj} {cur : Array Value} {α : Type} [Inhabited α] (enc : α → List Value) (k : Nat) (hk : ∀ x, (enc x).length = k) {ss ts : List α} (hl : ts.length = ss.length) (hbase : base ≤ g) (hb : w.heap[g]? = some (.cells cur e (0, 0)))
    (h1 : ss.length ≤ cap) (h2 : cap ≤ maxLen) (h3 : cur.size = cap * k) :
    (sortWorldK enc k w g 0 n ts.toArray os).ownsRow base e k (.slice (some ⟨g, 0, none⟩) ss.length cap) ss.length (ts.flatMap enc) := by
  refine ⟨by rw [flatMap_len enc k hk, hl], .inr ⟨g, cap, _, rfl, hbase, heap_sortedK enc k ts.toArray hb, h1, h2, by simp [putCells, h3], ?_⟩⟩
  have hle : ss.length * k ≤ cur.size := by rw [h3]; exact Nat.mul_le_mul_right k h1
  apply List.ext_getElem?
  intro j
  by_cases hj : j < ss.length * k
  · have hs : (flatK enc k ts.toArray).size = ss.length * k := by rw [size_flatK]; simp [hl]
    rw [List.getElem?_take_of_lt hj, Array.getElem?_toList, ← flatK_list enc k hk, Array.getElem?_toList]
    simp [putCells, hs, hj, show j < cur.size by omega]
  · rw [List.getElem?_take_eq_none (by omega), List.getElem?_eq_none (by rw [flatMap_len enc k hk, hl]; omega)]
end Go.Proofs.Ytailbppddnegoaa
