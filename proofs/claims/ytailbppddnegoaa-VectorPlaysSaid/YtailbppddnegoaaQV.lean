/- Vectors as marks in order (plain): raised, joined, met, covered. -/
import Derived.Test.YtailbppddnegoaaQM
import Derived.Test.YtailbppddnegoaaD1
namespace Go.Proofs.Ytailbppddnegoaa
set_option linter.unusedVariables false

def rightD (x : Dt) : Bool := dotB x.1.1 x.1.2 x.2
theorem rightD_iff (x : Dt) : rightD x = true ↔ 0 ≤ x.1.1 ∧ x.1.1 < 64 ∧ 1 ≤ x.1.2 ∧ x.1.2 ≤ 1048576 ∧ 1 ≤ x.2 ∧ x.2 ≤ 4294967296 := by
  simp only [rightD, dotB, actB, Bool.and_eq_true, decide_eq_true_eq]
  omega
/-- Marks that may be, in order. -/
def Vw (M : List Dt) : Prop := Srt M ∧ ∀ x ∈ M, rightD x = true
theorem Vw.nil : Vw [] := ⟨List.Pairwise.nil, by simp⟩
theorem Vw.tail {x : Dt} {M : List Dt} (h : Vw (x :: M)) : Vw M := ⟨(List.pairwise_cons.1 h.1).2, fun y hy => h.2 y (List.mem_cons_of_mem _ hy)⟩
theorem mget_none_of_ge {M : List Dt} {a : Ac} (h : a ∉ M.map (·.1)) : mget M a = 0 := mget_none h
theorem Vw.ge0 {M : List Dt} (h : Vw M) (a : Ac) : 0 ≤ mget M a := by
  by_cases ha : a ∈ M.map (·.1)
  · obtain ⟨y, hy, rfl⟩ := List.mem_map.1 ha
    rw [mget_mem h.1.nodup hy]
    have := (rightD_iff y).1 (h.2 y hy)
    omega
  · rw [mget_none ha]; omega
theorem Vw.le {M : List Dt} (h : Vw M) (a : Ac) : mget M a ≤ 4294967296 := by
  by_cases ha : a ∈ M.map (·.1)
  · obtain ⟨y, hy, rfl⟩ := List.mem_map.1 ha
    rw [mget_mem h.1.nodup hy]
    have := (rightD_iff y).1 (h.2 y hy)
    omega
  · rw [mget_none ha]; omega
theorem Vw.mem {M : List Dt} (h : Vw M) (x : Dt) : x ∈ M ↔ mget M x.1 = x.2 ∧ 1 ≤ x.2 := by
  rw [srt_iff_mget h.1]
  constructor
  · rintro ⟨h1, h2⟩
    obtain ⟨y, hy, e⟩ := List.mem_map.1 h1
    have := (rightD_iff y).1 (h.2 y hy)
    rw [← e, mget_mem h.1.nodup hy] at h2
    refine ⟨?_, by omega⟩
    rw [← e, mget_mem h.1.nodup hy]; exact h2
  · rintro ⟨h1, h2⟩
    refine ⟨?_, h1⟩
    exact Decidable.byContradiction fun hn => by
      rw [mget_none hn] at h1
      omega
theorem vw_ext {M N : List Dt} (h : Vw M) (k : Vw N) (e : ∀ a, mget M a = mget N a) : M = N :=
  srt_ext h.1 k.1 fun x => by rw [h.mem, k.mem, e]

def raisedB (M : List Dt) (a : Ac) (n : Int) : Bool := rightD (a, n) && decide (mget M a < n)
def rraise (M : List Dt) (a : Ac) (n : Int) : List Dt := if raisedB M a n = true then rset M a n else M
theorem Vw.set {M : List Dt} (h : Vw M) {a : Ac} {n : Int} (hr : rightD (a, n) = true) : Vw (rset M a n) := by
  refine ⟨srt_rset h.1 _ _, fun x hx => ?_⟩
  rcases (mem_rset h.1 _ _ _).1 hx with rfl | ⟨hx, _⟩
  · exact hr
  · exact h.2 x hx
theorem Vw.raise {M : List Dt} (h : Vw M) (a : Ac) (n : Int) : Vw (rraise M a n) := by
  unfold rraise
  split
  · rename_i hr
    simp only [raisedB, Bool.and_eq_true] at hr
    exact h.set hr.1
  · exact h
theorem mget_raise {M : List Dt} (h : Vw M) (a : Ac) (n : Int) (hr : rightD (a, n) = true ∨ n ≤ 0) (c : Ac) : mget (rraise M a n) c = if c = a then max (mget M a) n else mget M c := by
  have h0 := h.ge0 a
  unfold rraise
  by_cases hb : raisedB M a n = true
  · rw [if_pos hb, mget_rset h.1]
    simp only [raisedB, Bool.and_eq_true, decide_eq_true_eq] at hb
    split
    · omega
    · rfl
  · rw [if_neg hb]
    split
    · rename_i e
      subst e
      simp only [raisedB, Bool.and_eq_true, decide_eq_true_eq, not_and] at hb
      rcases hr with hr | hr
      · have := hb hr; omega
      · omega
    · rfl
/-- The greater numbers. -/
def rjoin (M O : List Dt) : List Dt := O.foldl (fun l x => rraise l x.1 x.2) M
theorem rjoin_snoc (M O : List Dt) (x : Dt) : rjoin M (O ++ [x]) = rraise (rjoin M O) x.1 x.2 := by simp [rjoin]
theorem Vw.join {M : List Dt} (h : Vw M) (O : List Dt) : Vw (rjoin M O) := by
  induction O generalizing M with
  | nil => exact h
  | cons x r ih => exact ih (h.raise x.1 x.2)
theorem mget_cons (x : Dt) (r : List Dt) (c : Ac) : mget (x :: r) c = if x.1 = c then x.2 else mget r c := rfl
theorem mget_join {M O : List Dt} (h : Vw M) (hs : Srt O) (ho : ∀ x ∈ O, rightD x = true ∨ x.2 ≤ 0) (c : Ac) : mget (rjoin M O) c = max (mget M c) (mget O c) := by
  induction O generalizing M with
  | nil =>
    have := h.ge0 c
    show mget M c = max (mget M c) 0
    omega
  | cons x r ih =>
    have hs' := List.pairwise_cons.1 hs
    have hx := ho x (List.mem_cons_self ..)
    have e : rjoin M (x :: r) = rjoin (rraise M x.1 x.2) r := rfl
    rw [e, ih (h.raise _ _) hs'.2 (fun y hy => ho y (List.mem_cons_of_mem _ hy)), mget_raise h _ _ hx, mget_cons]
    have h0 := h.ge0 c
    by_cases hc : c = x.1
    · subst hc
      have hn : mget r x.1 = 0 := mget_none fun hm => by
        obtain ⟨y, hy, e⟩ := List.mem_map.1 hm
        have := hs'.1 y hy
        rw [e, aLt_irrefl] at this; cases this
      rw [if_pos rfl, if_pos rfl, hn]
      omega
    · rw [if_neg hc, if_neg (fun e => hc e.symm)]
theorem Vw.ro {O : List Dt} (h : Vw O) : ∀ x ∈ O, rightD x = true ∨ x.2 ≤ 0 := fun x hx => .inl (h.2 x hx)
/-- The lesser numbers, as the document has them. -/
def rmeet (M O : List Dt) : List Dt := M.filterMap fun x => if 0 < min x.2 (mget O x.1) then some (x.1, min x.2 (mget O x.1)) else none
theorem mem_rmeet (M O : List Dt) (y : Dt) : y ∈ rmeet M O ↔ ∃ x ∈ M, y = (x.1, min x.2 (mget O x.1)) ∧ 0 < min x.2 (mget O x.1) := by
  unfold rmeet
  rw [List.mem_filterMap]
  constructor
  · rintro ⟨x, hx, h⟩
    split at h
    · rename_i h1
      cases h
      exact ⟨x, hx, rfl, h1⟩
    · cases h
  · rintro ⟨x, hx, rfl, h⟩
    exact ⟨x, hx, by rw [if_pos h]⟩
theorem Vw.meet {M O : List Dt} (h : Vw M) : Vw (rmeet M O) := by
  refine ⟨?_, fun y hy => ?_⟩
  · unfold rmeet Srt
    rw [List.pairwise_filterMap]
    refine h.1.imp fun {a b} hab x hx y hy => ?_
    simp only [Option.ite_none_right_eq_some, Option.some.injEq] at hx hy
    obtain ⟨_, rfl⟩ := hx
    obtain ⟨_, rfl⟩ := hy
    exact hab
  · obtain ⟨x, hx, rfl, hp⟩ := (mem_rmeet _ _ _).1 hy
    have := (rightD_iff x).1 (h.2 x hx)
    rw [rightD_iff]
    simp only
    omega
theorem mget_meet {M O : List Dt} (h : Vw M) (k : Vw O) (c : Ac) : mget (rmeet M O) c = min (mget M c) (mget O c) := by
  have hm : Vw (rmeet M O) := h.meet
  have h0 := h.ge0 c
  have k0 := k.ge0 c
  by_cases hc : c ∈ (rmeet M O).map (·.1)
  · obtain ⟨y, hy, rfl⟩ := List.mem_map.1 hc
    rw [mget_mem hm.1.nodup hy]
    obtain ⟨x, hx, rfl, hp⟩ := (mem_rmeet _ _ _).1 hy
    simp only
    rw [mget_mem h.1.nodup hx]
  · rw [mget_none hc]
    by_cases hcm : c ∈ M.map (·.1)
    · obtain ⟨x, hx, rfl⟩ := List.mem_map.1 hcm
      rw [mget_mem h.1.nodup hx] at *
      exact Decidable.byContradiction fun hne => hc (List.mem_map.2 ⟨_, (mem_rmeet _ _ _).2 ⟨x, hx, rfl, by omega⟩, rfl⟩)
    · rw [mget_none hcm]; omega
/-- The lesser numbers, as the program has them. -/
def pmeet (M O : List Dt) : List Dt := rjoin [] (M.map fun x => (x.1, min (mget M x.1) (mget O x.1)))
theorem srt_map2 {M : List Dt} (h : Srt M) (f : Dt → Int) : Srt (M.map fun x => (x.1, f x)) := by
  unfold Srt
  rw [List.pairwise_map]
  exact h
theorem mget_map2 {M : List Dt} (h : Srt M) (f : Ac → Int) (c : Ac) : mget (M.map fun x => (x.1, f x.1)) c = if c ∈ M.map (·.1) then f c else 0 := by
  have e : (M.map fun x => (x.1, f x.1)).map (·.1) = M.map (·.1) := by simp
  by_cases hc : c ∈ M.map (·.1)
  · rw [if_pos hc]
    obtain ⟨x, hx, rfl⟩ := List.mem_map.1 hc
    exact mget_mem (srt_map2 h fun x => f x.1).nodup (p := (x.1, f x.1)) (List.mem_map.2 ⟨x, hx, rfl⟩)
  · rw [if_neg hc, mget_none (by rw [e]; exact hc)]
theorem pmeet_eq {M O : List Dt} (h : Vw M) (k : Vw O) : pmeet M O = rmeet M O := by
  refine vw_ext (Vw.nil.join _) h.meet fun c => ?_
  unfold pmeet
  rw [mget_meet h k, mget_join Vw.nil (srt_map2 h.1 _) ?_, mget_map2 h.1 (fun a => min (mget M a) (mget O a))]
  · have h0 := h.ge0 c
    have k0 := k.ge0 c
    show max 0 _ = _
    split
    · omega
    · rename_i hc
      rw [mget_none hc]; omega
  · intro y hy
    obtain ⟨x, hx, rfl⟩ := List.mem_map.1 hy
    have hr := (rightD_iff x).1 (h.2 x hx)
    have k0 := k.ge0 x.1
    rw [mget_mem h.1.nodup hx]
    by_cases hp : min x.2 (mget O x.1) ≤ 0
    · exact .inr hp
    · refine .inl ((rightD_iff _).2 ?_)
      simp only
      omega
/-- Is none of another one's numbers above its own? -/
def rcov (M O : List Dt) : Bool := O.all fun x => decide (x.2 ≤ mget M x.1)
theorem rcov_iff {M O : List Dt} (h : Vw M) (k : Vw O) : rcov M O = true ↔ ∀ a, mget O a ≤ mget M a := by
  unfold rcov
  rw [List.all_eq_true]
  constructor
  · intro hx a
    by_cases ha : a ∈ O.map (·.1)
    · obtain ⟨x, hx', rfl⟩ := List.mem_map.1 ha
      rw [mget_mem k.1.nodup hx']
      simpa using hx x hx'
    · rw [mget_none ha]; exact h.ge0 a
  · intro ha x hx
    have := ha x.1
    rw [mget_mem k.1.nodup hx] at this
    simpa using this
/-- Marks raised one by one. -/
def rmade (l : List Dt) : List Dt := rjoin [] (l.take 60)
theorem vw_made (l : List Dt) : Vw (rmade l) := Vw.nil.join _
/-- The next one of an actor. -/
def takenB (M : List Dt) (x : Dt) : Bool := rightD x && decide (mget M x.1 + 1 = x.2)
def rtake (M : List Dt) (x : Dt) : List Dt := if takenB M x = true then rset M x.1 x.2 else M
theorem Vw.take {M : List Dt} (h : Vw M) (x : Dt) : Vw (rtake M x) := by
  unfold rtake
  split
  · rename_i hr
    simp only [takenB, Bool.and_eq_true] at hr
    exact h.set hr.1
  · exact h
end Go.Proofs.Ytailbppddnegoaa
