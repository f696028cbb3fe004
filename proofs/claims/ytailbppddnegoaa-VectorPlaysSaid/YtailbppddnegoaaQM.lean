/- Actors and dots as pairs of numbers, their orders, lists in order (plain; no program in sight). -/
import Derived.Test.YtailbppddnegoaaM1
namespace Go.Proofs.Ytailbppddnegoaa
set_option linter.unusedVariables false

/-- An actor: its device, its incarnation. -/
abbrev Ac := Int × Int
/-- A dot, or a mark: an actor, a number. -/
abbrev Dt := Ac × Int
def aLt (a b : Ac) : Bool := decide (a.1 < b.1 ∨ (a.1 = b.1 ∧ a.2 < b.2))
def dLt (x y : Dt) : Bool := decide (x.1.1 < y.1.1 ∨ (x.1.1 = y.1.1 ∧ (x.1.2 < y.1.2 ∨ (x.1.2 = y.1.2 ∧ x.2 < y.2))))
theorem ac_ext {a b : Ac} (h1 : a.1 = b.1) (h2 : a.2 = b.2) : a = b := Prod.ext h1 h2
theorem dt_ext {a b : Dt} (h1 : a.1.1 = b.1.1) (h2 : a.1.2 = b.1.2) (h3 : a.2 = b.2) : a = b := Prod.ext (Prod.ext h1 h2) h3
theorem aLt_irrefl (a : Ac) : aLt a a = false := by simp [aLt]
theorem aLt_trans {a b c : Ac} (h : aLt a b = true) (k : aLt b c = true) : aLt a c = true := by
  simp only [aLt, decide_eq_true_eq] at *; omega
theorem aLt_tri {a b : Ac} (h : aLt a b = false) (k : aLt b a = false) : a = b := by
  simp only [aLt, decide_eq_false_iff_not] at *
  exact ac_ext (by omega) (by omega)
theorem aLt_asymm {a b : Ac} (h : aLt a b = true) : aLt b a = false := by
  simp only [aLt, decide_eq_true_eq, decide_eq_false_iff_not] at *; omega
theorem dLt_irrefl (a : Dt) : dLt a a = false := by simp [dLt]
theorem dLt_trans {a b c : Dt} (h : dLt a b = true) (k : dLt b c = true) : dLt a c = true := by
  simp only [dLt, decide_eq_true_eq] at *; omega
theorem dLt_tri {a b : Dt} (h : dLt a b = false) (k : dLt b a = false) : a = b := by
  simp only [dLt, decide_eq_false_iff_not] at *
  exact dt_ext (by omega) (by omega) (by omega)
theorem dLt_asymm {a b : Dt} (h : dLt a b = true) : dLt b a = false := by
  simp only [dLt, decide_eq_true_eq, decide_eq_false_iff_not] at *; omega
theorem dLt_of_aLt {x y : Dt} (h : aLt x.1 y.1 = true) : dLt x y = true := by
  simp only [dLt, aLt, decide_eq_true_eq] at *; omega

/-! Lists in order: one by their members. -/
section
variable {α : Type} {r : α → α → Bool}
theorem pw_ext (hi : ∀ a, r a a = false) (ht : ∀ a b c, r a b = true → r b c = true → r a c = true) {l m : List α} (hl : l.Pairwise fun x y => r x y = true) (hm : m.Pairwise fun x y => r x y = true) (h : ∀ x, x ∈ l ↔ x ∈ m) : l = m := by
  induction l generalizing m with
  | nil =>
    cases m with
    | nil => rfl
    | cons y t => exact absurd ((h y).2 (List.mem_cons_self ..)) (by simp)
  | cons x s ih =>
    cases m with
    | nil => exact absurd ((h x).1 (List.mem_cons_self ..)) (by simp)
    | cons y t =>
      rw [List.pairwise_cons] at hl hm
      have hxy : x = y := by
        rcases List.mem_cons.1 ((h x).1 (List.mem_cons_self ..)) with e | hx
        · exact e
        · rcases List.mem_cons.1 ((h y).2 (List.mem_cons_self ..)) with e | hy
          · exact e.symm
          · have := ht _ _ _ (hl.1 y hy) (hm.1 x hx)
            rw [hi] at this; cases this
      subst hxy
      congr 1
      refine ih hl.2 hm.2 fun z => ?_
      constructor
      · intro hz
        rcases List.mem_cons.1 ((h z).1 (List.mem_cons_of_mem _ hz)) with e | hz'
        · subst e
          have := hl.1 z hz; rw [hi] at this; cases this
        · exact hz'
      · intro hz
        rcases List.mem_cons.1 ((h z).2 (List.mem_cons_of_mem _ hz)) with e | hz'
        · subst e
          have := hm.1 z hz; rw [hi] at this; cases this
        · exact hz'
theorem pw_nodup (hi : ∀ a, r a a = false) {l : List α} (hl : l.Pairwise fun x y => r x y = true) : l.Nodup :=
  hl.imp fun {a b} h e => by subst e; rw [hi] at h; cases h
/-- A list in order, of which another one is a permutation, is what is sorted of it. -/
theorem pw_sort (hi : ∀ a, r a a = false) (ht : ∀ a b c, r a b = true → r b c = true → r a c = true) (hc : ∀ a b, r a b = false → r b a = false → a = b) {l m : List α} (hm : m.Pairwise fun x y => r x y = true) (hp : l.Perm m) :
    (l.mergeSort fun x y => !r y x) = m := by
  have hnd : l.Nodup := hp.nodup_iff.2 (pw_nodup hi hm)
  have h1 := List.pairwise_mergeSort (le := fun x y => !r y x) (fun a b c h k => by
    simp only [Bool.not_eq_true'] at *
    cases hca : r c a with
    | false => rfl
    | true =>
      exfalso
      cases hab : r a b with
      | true => have := ht _ _ _ hca hab; rw [k] at this; cases this
      | false => have := hc _ _ hab h; subst this; rw [k] at hca; cases hca) (fun a b => by
    cases h : r b a with
    | false => simp
    | true =>
      cases k : r a b with
      | false => simp
      | true => have := ht _ _ _ h k; rw [hi] at this; cases this) l
  have hp2 := List.mergeSort_perm l (fun x y => !r y x)
  refine pw_ext hi ht ?_ hm fun x => ?_
  · have hn2 : (l.mergeSort fun x y => !r y x).Nodup := hp2.nodup_iff.2 hnd
    have := List.Pairwise.and h1 hn2
    refine this.imp fun {a b} ⟨h, hne⟩ => ?_
    cases hab : r a b with
    | true => rfl
    | false =>
      simp only [Bool.not_eq_true'] at h
      exact absurd (hc _ _ hab h) hne
  · exact (hp2.trans hp).mem_iff
end
/-- Marks in order. -/
def Srt (M : List Dt) : Prop := M.Pairwise fun x y => aLt x.1 y.1 = true
/-- Dots in order. -/
def DSrt (L : List Dt) : Prop := L.Pairwise fun x y => dLt x y = true
theorem Srt.dsrt {M : List Dt} (h : Srt M) : DSrt M := h.imp dLt_of_aLt
theorem Srt.keys {M : List Dt} (h : Srt M) : (M.map (·.1)).Pairwise fun x y => aLt x y = true := List.pairwise_map.2 h
theorem Srt.nodup {M : List Dt} (h : Srt M) : (M.map (·.1)).Nodup := pw_nodup aLt_irrefl h.keys
theorem srt_ext {M N : List Dt} (h : Srt M) (k : Srt N) (hm : ∀ x, x ∈ M ↔ x ∈ N) : M = N :=
  pw_ext dLt_irrefl (fun _ _ _ => dLt_trans) h.dsrt k.dsrt hm
theorem dsrt_ext {M N : List Dt} (h : DSrt M) (k : DSrt N) (hm : ∀ x, x ∈ M ↔ x ∈ N) : M = N :=
  pw_ext dLt_irrefl (fun _ _ _ => dLt_trans) h k hm
theorem srt_unique {M : List Dt} (h : Srt M) {x y : Dt} (hx : x ∈ M) (hy : y ∈ M) (e : x.1 = y.1) : x = y := by
  have := mget_mem h.nodup hx
  rw [e, mget_mem h.nodup hy] at this
  exact Prod.ext e this.symm
theorem srt_iff_mget {M : List Dt} (h : Srt M) (x : Dt) : x ∈ M ↔ x.1 ∈ M.map (·.1) ∧ mget M x.1 = x.2 := by
  constructor
  · intro hx
    exact ⟨List.mem_map.2 ⟨x, hx, rfl⟩, mget_mem h.nodup hx⟩
  · rintro ⟨h1, h2⟩
    obtain ⟨y, hy, e⟩ := List.mem_map.1 h1
    rw [← e, mget_mem h.nodup hy] at h2
    have : x = y := Prod.ext e.symm h2.symm
    rw [this]; exact hy

/-- A mark put in its place. -/
def rset : List Dt → Ac → Int → List Dt
  | [], a, n => [(a, n)]
  | x :: r, a, n => if aLt x.1 a then x :: rset r a n else if x.1 = a then (a, n) :: r else (a, n) :: x :: r
theorem mem_rset {M : List Dt} (h : Srt M) (a : Ac) (n : Int) (x : Dt) : x ∈ rset M a n ↔ x = (a, n) ∨ (x ∈ M ∧ x.1 ≠ a) := by
  induction M with
  | nil => simp [rset]
  | cons y r ih =>
    have hs := List.pairwise_cons.1 h
    have ih := ih hs.2
    unfold rset
    by_cases h1 : aLt y.1 a = true
    · rw [if_pos h1, List.mem_cons, ih, List.mem_cons]
      have hne : y.1 ≠ a := fun e => by rw [e, aLt_irrefl] at h1; cases h1
      constructor
      · rintro (rfl | h | h)
        · exact .inr ⟨.inl rfl, hne⟩
        · exact .inl h
        · exact .inr ⟨.inr h.1, h.2⟩
      · rintro (h | ⟨h | h, k⟩)
        · exact .inr (.inl h)
        · exact .inl h
        · exact .inr (.inr ⟨h, k⟩)
    · rw [if_neg h1]
      have hall : ∀ z ∈ r, z.1 ≠ a := fun z hz e => by
        have := hs.1 z hz
        rw [e] at this; exact h1 this
      by_cases h2 : y.1 = a
      · rw [if_pos h2, List.mem_cons, List.mem_cons]
        constructor
        · rintro (h | h)
          · exact .inl h
          · exact .inr ⟨.inr h, hall x h⟩
        · rintro (h | ⟨h | h, k⟩)
          · exact .inl h
          · subst h; exact absurd h2 k
          · exact .inr h
      · rw [if_neg h2, List.mem_cons, List.mem_cons]
        constructor
        · rintro (h | h | h)
          · exact .inl h
          · subst h; exact .inr ⟨.inl rfl, h2⟩
          · exact .inr ⟨.inr h, hall x h⟩
        · rintro (h | ⟨h | h, k⟩)
          · exact .inl h
          · exact .inr (.inl h)
          · exact .inr (.inr h)
theorem srt_rset {M : List Dt} (h : Srt M) (a : Ac) (n : Int) : Srt (rset M a n) := by
  induction M with
  | nil => simp [rset, Srt]
  | cons y r ih =>
    have hs := List.pairwise_cons.1 h
    unfold rset
    by_cases h1 : aLt y.1 a = true
    · rw [if_pos h1]
      refine List.pairwise_cons.2 ⟨fun z hz => ?_, ih hs.2⟩
      rcases (mem_rset hs.2 a n z).1 hz with rfl | ⟨hz, _⟩
      · exact h1
      · exact hs.1 z hz
    · rw [if_neg h1]
      by_cases h2 : y.1 = a
      · rw [if_pos h2]
        subst h2
        exact List.pairwise_cons.2 ⟨hs.1, hs.2⟩
      · rw [if_neg h2]
        have h3 : aLt a y.1 = true := by
          cases h3 : aLt a y.1 with
          | true => rfl
          | false => exact absurd (aLt_tri (by simpa using h1) h3) h2
        refine List.pairwise_cons.2 ⟨fun z hz => ?_, h⟩
        rcases List.mem_cons.1 hz with rfl | hz
        · exact h3
        · exact aLt_trans h3 (hs.1 z hz)
theorem nodup_of_map {α β : Type} (f : α → β) {l : List α} (h : (l.map f).Nodup) : l.Nodup := by
  rw [List.nodup_iff_pairwise_ne, List.pairwise_map] at h
  rw [List.nodup_iff_pairwise_ne]
  exact h.imp fun {a b} hne e => hne (by rw [e])
theorem rset_perm {M : List Dt} (h : Srt M) (a : Ac) (n : Int) : (rset M a n).Perm ((a, n) :: M.filter fun p => decide (p.1 ≠ a)) := by
  refine (List.perm_ext_iff_of_nodup (nodup_of_map _ (srt_rset h a n).nodup) ?_).2 fun x => ?_
  · refine List.nodup_cons.2 ⟨fun hm => ?_, List.filter_sublist.nodup (nodup_of_map _ h.nodup)⟩
    have := (List.mem_filter.1 hm).2
    simp at this
  · rw [mem_rset h, List.mem_cons, List.mem_filter]
    simp
theorem mget_rset {M : List Dt} (h : Srt M) (a : Ac) (n : Int) (c : Ac) : mget (rset M a n) c = if c = a then n else mget M c := by
  have hs := srt_rset h a n
  split
  · rename_i e
    subst e
    exact mget_mem hs.nodup (p := (c, n)) ((mem_rset h _ _ _).2 (.inl rfl))
  · rename_i hne
    by_cases hc : c ∈ M.map (·.1)
    · obtain ⟨y, hy, rfl⟩ := List.mem_map.1 hc
      rw [mget_mem h.nodup hy]
      exact mget_mem hs.nodup ((mem_rset h _ _ _).2 (.inr ⟨hy, hne⟩))
    · rw [mget_none hc, mget_none]
      intro hm
      obtain ⟨y, hy, rfl⟩ := List.mem_map.1 hm
      rcases (mem_rset h _ _ _).1 hy with rfl | ⟨hy, _⟩
      · exact hne rfl
      · exact hc (List.mem_map.2 ⟨y, hy, rfl⟩)
/-- A mark put in its place, as the document does it. -/
def setL : List Dt → Ac → Int → Bool → List Dt
  | [], a, n, i => if i then [] else [(a, n)]
  | x :: r, a, n, i => (if !i && !aLt x.1 a then [(a, n)] else []) ++ (if x.1 ≠ a then [x] else []) ++ setL r a n (i || !aLt x.1 a)
theorem setL_true (M : List Dt) (a : Ac) (n : Int) : setL M a n true = M.filter fun p => decide (p.1 ≠ a) := by
  induction M with
  | nil => rfl
  | cons x r ih =>
    simp only [setL, Bool.not_true, Bool.false_and, Bool.false_eq_true, if_false, List.nil_append, Bool.true_or, ih, List.filter_cons, decide_eq_true_eq]
    split <;> rfl
theorem setL_eq {M : List Dt} (h : Srt M) (a : Ac) (n : Int) : setL M a n false = rset M a n := by
  induction M with
  | nil => rfl
  | cons x r ih =>
    have hs := List.pairwise_cons.1 h
    unfold setL rset
    by_cases h1 : aLt x.1 a = true
    · have hne : x.1 ≠ a := fun e => by rw [e, aLt_irrefl] at h1; cases h1
      simp [h1, hne, ih hs.2]
    · rw [if_neg h1]
      have h1' : aLt x.1 a = false := by simpa using h1
      have hf : r.filter (fun p => decide (p.1 ≠ a)) = r := List.filter_eq_self.2 fun z hz => by
        rw [decide_eq_true_eq]
        intro e
        have := hs.1 z hz
        rw [e] at this; exact h1 this
      simp only [h1', Bool.not_false, Bool.and_self, if_true, Bool.or_true, setL_true, hf]
      by_cases h2 : x.1 = a
      · simp [h2]
      · simp [h2]
end Go.Proofs.Ytailbppddnegoaa
