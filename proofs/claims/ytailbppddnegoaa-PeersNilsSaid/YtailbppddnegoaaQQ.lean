/- Merged: QV, QS. -/
import Derived.Test.YtailbppddnegoaaMA
import Derived.Test.YtailbppddnegoaaDD
/- Vectors as marks in order (plain): raised, joined, met, covered. -/
namespace Go.Proofs.Ytailbppddnegoaa
set_option linter.unusedVariables false

def rightD (x : Dt) : Bool := dotB x.1.1 x.1.2 x.2
theorem rightD_iff (x : Dt) : rightD x = true ↔ 0 ≤ x.1.1 ∧ x.1.1 < 64 ∧ 1 ≤ x.1.2 ∧ x.1.2 ≤ 1048576 ∧ 1 ≤ x.2 ∧ x.2 ≤ 4294967296 := by
  simp only [rightD, dotB, actB, Bool.and_eq_true, decide_eq_true_eq]
  omega
/-- Marks that may be, in order. -/
def Vw (M : List Dt) : Prop := Srt M ∧ ∀ x ∈ M, rightD x = true
theorem Vw.nil : Vw [] := ⟨List.Pairwise.nil, by simp⟩
theorem Vw.tail {x : Dt} {M : List Dt} (h : Vw (x :: M)) : Vw M := ⟨(List.pairwise_cons.1 h.1).2, fun y hy => h.2 y (List.mem_cons_of_mem _ hy)⟩
theorem mget_none_of_ge {M : List Dt} {a : Ac} (h : a ∉ M.map (·.1)) : mget M a = 0 := mget_none h
theorem Vw.ge0 {M : List Dt} (h : Vw M) (a : Ac) : 0 ≤ mget M a := by
  by_cases ha : a ∈ M.map (·.1)
  · obtain ⟨y, hy, rfl⟩ := List.mem_map.1 ha
    rw [mget_mem h.1.nodup hy]
    have := (rightD_iff y).1 (h.2 y hy)
    omega
  · rw [mget_none ha]; omega
theorem Vw.le {M : List Dt} (h : Vw M) (a : Ac) : mget M a ≤ 4294967296 := by
  by_cases ha : a ∈ M.map (·.1)
  · obtain ⟨y, hy, rfl⟩ := List.mem_map.1 ha
    rw [mget_mem h.1.nodup hy]
    have := (rightD_iff y).1 (h.2 y hy)
    omega
  · rw [mget_none ha]; omega
theorem Vw.mem {M : List Dt} (h : Vw M) (x : Dt) : x ∈ M ↔ mget M x.1 = x.2 ∧ 1 ≤ x.2 := by
  rw [srt_iff_mget h.1]
  constructor
  · rintro ⟨h1, h2⟩
    obtain ⟨y, hy, e⟩ := List.mem_map.1 h1
    have := (rightD_iff y).1 (h.2 y hy)
    rw [← e, mget_mem h.1.nodup hy] at h2
    refine ⟨?_, by omega⟩
    rw [← e, mget_mem h.1.nodup hy]; exact h2
  · rintro ⟨h1, h2⟩
    refine ⟨?_, h1⟩
    exact Decidable.byContradiction fun hn => by
      rw [mget_none hn] at h1
      omega
theorem vw_ext {M N : List Dt} (h : Vw M) (k : Vw N) (e : ∀ a, mget M a = mget N a) : M = N :=
  srt_ext h.1 k.1 fun x => by rw [h.mem, k.mem, e]

def raisedB (M : List Dt) (a : Ac) (n : Int) : Bool := rightD (a, n) && decide (mget M a < n)
def rraise (M : List Dt) (a : Ac) (n : Int) : List Dt := if raisedB M a n = true then rset M a n else M
theorem Vw.set {M : List Dt} (h : Vw M) {a : Ac} {n : Int} (hr : rightD (a, n) = true) : Vw (rset M a n) := by
  refine ⟨srt_rset h.1 _ _, fun x hx => ?_⟩
  rcases (mem_rset h.1 _ _ _).1 hx with rfl | ⟨hx, _⟩
  · exact hr
  · exact h.2 x hx
theorem Vw.raise {M : List Dt} (h : Vw M) (a : Ac) (n : Int) : Vw (rraise M a n) := by
  unfold rraise
  split
  · rename_i hr
    simp only [raisedB, Bool.and_eq_true] at hr
    exact h.set hr.1
  · exact h
theorem mget_raise {M : List Dt} (h : Vw M) (a : Ac) (n : Int) (hr : rightD (a, n) = true ∨ n ≤ 0) (c : Ac) : mget (rraise M a n) c = if c = a then max (mget M a) n else mget M c := by
  have h0 := h.ge0 a
  unfold rraise
  by_cases hb : raisedB M a n = true
  · rw [if_pos hb, mget_rset h.1]
    simp only [raisedB, Bool.and_eq_true, decide_eq_true_eq] at hb
    split
    · omega
    · rfl
  · rw [if_neg hb]
    split
    · rename_i e
      subst e
      simp only [raisedB, Bool.and_eq_true, decide_eq_true_eq, not_and] at hb
      rcases hr with hr | hr
      · have := hb hr; omega
      · omega
    · rfl
/-- The greater numbers. -/
def rjoin (M O : List Dt) : List Dt := O.foldl (fun l x => rraise l x.1 x.2) M
theorem rjoin_snoc (M O : List Dt) (x : Dt) : rjoin M (O ++ [x]) = rraise (rjoin M O) x.1 x.2 := by simp [rjoin]
theorem Vw.join {M : List Dt} (h : Vw M) (O : List Dt) : Vw (rjoin M O) := by
  induction O generalizing M with
  | nil => exact h
  | cons x r ih => exact ih (h.raise x.1 x.2)
theorem mget_cons (x : Dt) (r : List Dt) (c : Ac) : mget (x :: r) c = if x.1 = c then x.2 else mget r c := rfl
theorem mget_join {M O : List Dt} (h : Vw M) (hs : Srt O) (ho : ∀ x ∈ O, rightD x = true ∨ x.2 ≤ 0) (c : Ac) : mget (rjoin M O) c = max (mget M c) (mget O c) := by
  induction O generalizing M with
  | nil =>
    have := h.ge0 c
    show mget M c = max (mget M c) 0
    omega
  | cons x r ih =>
    have hs' := List.pairwise_cons.1 hs
    have hx := ho x (List.mem_cons_self ..)
    have e : rjoin M (x :: r) = rjoin (rraise M x.1 x.2) r := rfl
    rw [e, ih (h.raise _ _) hs'.2 (fun y hy => ho y (List.mem_cons_of_mem _ hy)), mget_raise h _ _ hx, mget_cons]
    have h0 := h.ge0 c
    by_cases hc : c = x.1
    · subst hc
      have hn : mget r x.1 = 0 := mget_none fun hm => by
        obtain ⟨y, hy, e⟩ := List.mem_map.1 hm
        have := hs'.1 y hy
        rw [e, aLt_irrefl] at this; cases this
      rw [if_pos rfl, if_pos rfl, hn]
      omega
    · rw [if_neg hc, if_neg (fun e => hc e.symm)]
theorem Vw.ro {O : List Dt} (h : Vw O) : ∀ x ∈ O, rightD x = true ∨ x.2 ≤ 0 := fun x hx => .inl (h.2 x hx)
/-- The lesser numbers, as the document has them. -/
def rmeet (M O : List Dt) : List Dt := M.filterMap fun x => if 0 < min x.2 (mget O x.1) then some (x.1, min x.2 (mget O x.1)) else none
theorem mem_rmeet (M O : List Dt) (y : Dt) : y ∈ rmeet M O ↔ ∃ x ∈ M, y = (x.1, min x.2 (mget O x.1)) ∧ 0 < min x.2 (mget O x.1) := by
  unfold rmeet
  rw [List.mem_filterMap]
  constructor
  · rintro ⟨x, hx, h⟩
    split at h
    · rename_i h1
      cases h
      exact ⟨x, hx, rfl, h1⟩
    · cases h
  · rintro ⟨x, hx, rfl, h⟩
    exact ⟨x, hx, by rw [if_pos h]⟩
theorem Vw.meet {M O : List Dt} (h : Vw M) : Vw (rmeet M O) := by
  refine ⟨?_, fun y hy => ?_⟩
  · unfold rmeet Srt
    rw [List.pairwise_filterMap]
    refine h.1.imp fun {a b} hab x hx y hy => ?_
    simp only [Option.ite_none_right_eq_some, Option.some.injEq] at hx hy
    obtain ⟨_, rfl⟩ := hx
    obtain ⟨_, rfl⟩ := hy
    exact hab
  · obtain ⟨x, hx, rfl, hp⟩ := (mem_rmeet _ _ _).1 hy
    have := (rightD_iff x).1 (h.2 x hx)
    rw [rightD_iff]
    simp only
    omega
theorem mget_meet {M O : List Dt} (h : Vw M) (k : Vw O) (c : Ac) : mget (rmeet M O) c = min (mget M c) (mget O c) := by
  have hm : Vw (rmeet M O) := h.meet
  have h0 := h.ge0 c
  have k0 := k.ge0 c
  by_cases hc : c ∈ (rmeet M O).map (·.1)
  · obtain ⟨y, hy, rfl⟩ := List.mem_map.1 hc
    rw [mget_mem hm.1.nodup hy]
    obtain ⟨x, hx, rfl, hp⟩ := (mem_rmeet _ _ _).1 hy
    simp only
    rw [mget_mem h.1.nodup hx]
  · rw [mget_none hc]
    by_cases hcm : c ∈ M.map (·.1)
    · obtain ⟨x, hx, rfl⟩ := List.mem_map.1 hcm
      rw [mget_mem h.1.nodup hx] at *
      exact Decidable.byContradiction fun hne => hc (List.mem_map.2 ⟨_, (mem_rmeet _ _ _).2 ⟨x, hx, rfl, by omega⟩, rfl⟩)
    · rw [mget_none hcm]; omega
/-- The lesser numbers, as the program has them. -/
def pmeet (M O : List Dt) : List Dt := rjoin [] (M.map fun x => (x.1, min (mget M x.1) (mget O x.1)))
theorem srt_map2 {M : List Dt} (h : Srt M) (f : Dt → Int) : Srt (M.map fun x => (x.1, f x)) := by
  unfold Srt
  rw [List.pairwise_map]
  exact h
theorem mget_map2 {M : List Dt} (h : Srt M) (f : Ac → Int) (c : Ac) : mget (M.map fun x => (x.1, f x.1)) c = if c ∈ M.map (·.1) then f c else 0 := by
  have e : (M.map fun x => (x.1, f x.1)).map (·.1) = M.map (·.1) := by simp
  by_cases hc : c ∈ M.map (·.1)
  · rw [if_pos hc]
    obtain ⟨x, hx, rfl⟩ := List.mem_map.1 hc
    exact mget_mem (srt_map2 h fun x => f x.1).nodup (p := (x.1, f x.1)) (List.mem_map.2 ⟨x, hx, rfl⟩)
  · rw [if_neg hc, mget_none (by rw [e]; exact hc)]
theorem pmeet_eq {M O : List Dt} (h : Vw M) (k : Vw O) : pmeet M O = rmeet M O := by
  refine vw_ext (Vw.nil.join _) h.meet fun c => ?_
  unfold pmeet
  rw [mget_meet h k, mget_join Vw.nil (srt_map2 h.1 _) ?_, mget_map2 h.1 (fun a => min (mget M a) (mget O a))]
  · have h0 := h.ge0 c
    have k0 := k.ge0 c
    show max 0 _ = _
    split
    · omega
    · rename_i hc
      rw [mget_none hc]; omega
  · intro y hy
    obtain ⟨x, hx, rfl⟩ := List.mem_map.1 hy
    have hr := (rightD_iff x).1 (h.2 x hx)
    have k0 := k.ge0 x.1
    rw [mget_mem h.1.nodup hx]
    by_cases hp : min x.2 (mget O x.1) ≤ 0
    · exact .inr hp
    · refine .inl ((rightD_iff _).2 ?_)
      simp only
      omega
/-- Is none of another one's numbers above its own? -/
def rcov (M O : List Dt) : Bool := O.all fun x => decide (x.2 ≤ mget M x.1)
theorem rcov_iff {M O : List Dt} (h : Vw M) (k : Vw O) : rcov M O = true ↔ ∀ a, mget O a ≤ mget M a := by
  unfold rcov
  rw [List.all_eq_true]
  constructor
  · intro hx a
    by_cases ha : a ∈ O.map (·.1)
    · obtain ⟨x, hx', rfl⟩ := List.mem_map.1 ha
      rw [mget_mem k.1.nodup hx']
      simpa using hx x hx'
    · rw [mget_none ha]; exact h.ge0 a
  · intro ha x hx
    have := ha x.1
    rw [mget_mem k.1.nodup hx] at this
    simpa using this
/-- Marks raised one by one. -/
def rmade (l : List Dt) : List Dt := rjoin [] (l.take 60)
theorem vw_made (l : List Dt) : Vw (rmade l) := Vw.nil.join _
/-- The next one of an actor. -/
def takenB (M : List Dt) (x : Dt) : Bool := rightD x && decide (mget M x.1 + 1 = x.2)
def rtake (M : List Dt) (x : Dt) : List Dt := if takenB M x = true then rset M x.1 x.2 else M
theorem Vw.take {M : List Dt} (h : Vw M) (x : Dt) : Vw (rtake M x) := by
  unfold rtake
  split
  · rename_i hr
    simp only [takenB, Bool.and_eq_true] at hr
    exact h.set hr.1
  · exact h
end Go.Proofs.Ytailbppddnegoaa
/- Sets of dots: a base, exceptions beyond it (plain). -/
namespace Go.Proofs.Ytailbppddnegoaa
set_option linter.unusedVariables false

/-! Dots in order, each once. -/
def insD : List Dt → Dt → List Dt
  | [], d => [d]
  | x :: r, d => if dLt x d then x :: insD r d else if x = d then x :: r else d :: x :: r
theorem mem_insD (L : List Dt) (d x : Dt) : x ∈ insD L d ↔ x = d ∨ x ∈ L := by
  induction L with
  | nil => simp [insD]
  | cons y r ih =>
    unfold insD
    split
    · rw [List.mem_cons, ih, List.mem_cons]
      constructor
      · rintro (h | h | h)
        · exact .inr (.inl h)
        · exact .inl h
        · exact .inr (.inr h)
      · rintro (h | h | h)
        · exact .inr (.inl h)
        · exact .inl h
        · exact .inr (.inr h)
    · split
      · rename_i h
        subst h
        simp
      · simp
theorem srt_insD {L : List Dt} (h : DSrt L) (d : Dt) : DSrt (insD L d) := by
  induction L with
  | nil => simp [insD, DSrt]
  | cons y r ih =>
    have hs := List.pairwise_cons.1 h
    unfold insD
    split
    · rename_i h1
      refine List.pairwise_cons.2 ⟨fun z hz => ?_, ih hs.2⟩
      rcases (mem_insD _ _ _).1 hz with rfl | hz
      · exact h1
      · exact hs.1 z hz
    · rename_i h1
      split
      · exact h
      · rename_i h2
        have h3 : dLt d y = true := by
          cases h3 : dLt d y with
          | true => rfl
          | false => exact absurd (dLt_tri (by simpa using h1) h3) h2
        refine List.pairwise_cons.2 ⟨fun z hz => ?_, h⟩
        rcases List.mem_cons.1 hz with rfl | hz
        · exact h3
        · exact dLt_trans h3 (hs.1 z hz)
def dsort (l : List Dt) : List Dt := l.foldl insD []
theorem foldl_insD (l L : List Dt) (h : DSrt L) : DSrt (l.foldl insD L) ∧ ∀ x, x ∈ l.foldl insD L ↔ x ∈ L ∨ x ∈ l := by
  induction l generalizing L with
  | nil => exact ⟨h, by simp⟩
  | cons d r ih =>
    obtain ⟨h1, h2⟩ := ih (insD L d) (srt_insD h d)
    refine ⟨h1, fun x => ?_⟩
    rw [List.foldl_cons, h2, mem_insD, List.mem_cons]
    constructor
    · rintro ((h | h) | h)
      · exact .inr (.inl h)
      · exact .inl h
      · exact .inr (.inr h)
    · rintro (h | h | h)
      · exact .inl (.inr h)
      · exact .inl (.inl h)
      · exact .inr h
theorem srt_dsort (l : List Dt) : DSrt (dsort l) := (foldl_insD l [] List.Pairwise.nil).1
theorem mem_dsort (l : List Dt) (x : Dt) : x ∈ dsort l ↔ x ∈ l := by
  rw [dsort, (foldl_insD l [] List.Pairwise.nil).2]; simp
theorem dsort_ext {l m : List Dt} (hm : DSrt m) (h : ∀ x, x ∈ l ↔ x ∈ m) : dsort l = m :=
  dsrt_ext (srt_dsort l) hm fun x => (mem_dsort l x).trans (h x)
theorem DSrt.nodup {L : List Dt} (h : DSrt L) : L.Nodup := pw_nodup dLt_irrefl h
theorem DSrt.filter {L : List Dt} (h : DSrt L) (p : Dt → Bool) : DSrt (L.filter p) := List.Pairwise.filter p h

/-! Up to which number of an actor there are all dots. -/
def IsUp (L : List Dt) (a : Ac) (n : Int) : Prop := 0 ≤ n ∧ (∀ j, 1 ≤ j → j ≤ n → (a, j) ∈ L) ∧ (a, n + 1) ∉ L
theorem isUp_unique {L : List Dt} {a : Ac} {n m : Int} (h : IsUp L a n) (k : IsUp L a m) : n = m := by
  obtain ⟨h1, h2, h3⟩ := h
  obtain ⟨k1, k2, k3⟩ := k
  rcases Int.lt_trichotomy n m with h | h | h
  · exact absurd (k2 (n + 1) (by omega) (by omega)) h3
  · exact h
  · exact absurd (h2 (m + 1) (by omega) (by omega)) k3
/-- How many dots of an actor are above a number. -/
def abv (L : List Dt) (a : Ac) (n : Int) : Nat := (L.filter fun x => decide (x.1 = a ∧ n < x.2)).length
theorem abv_lt {L : List Dt} {a : Ac} {n : Int} (h : (a, n + 1) ∈ L) : abv L a (n + 1) < abv L a n := by
  unfold abv
  induction L with
  | nil => cases h
  | cons x r ih =>
    rw [List.filter_cons, List.filter_cons]
    have hle : (r.filter fun x => decide (x.1 = a ∧ n + 1 < x.2)).length ≤ (r.filter fun x => decide (x.1 = a ∧ n < x.2)).length := by
      have e : (r.filter fun x => decide (x.1 = a ∧ n + 1 < x.2)) = (r.filter fun x => decide (x.1 = a ∧ n < x.2)).filter fun x => decide (x.1 = a ∧ n + 1 < x.2) := by
        rw [List.filter_filter]
        refine List.filter_congr fun y _ => ?_
        rw [Bool.eq_iff_iff]
        simp only [Bool.and_eq_true, decide_eq_true_eq]
        constructor
        · rintro ⟨h1, h2⟩
          exact ⟨⟨h1, h2⟩, h1, by omega⟩
        · rintro ⟨h1, _⟩
          exact h1
      rw [e]
      exact List.length_filter_le _ _
    rcases List.mem_cons.1 h with e | h
    · subst e
      rw [if_neg (by simp), if_pos (by simp; omega)]
      rw [List.length_cons]; omega
    · have := ih h
      by_cases h1 : x.1 = a ∧ n + 1 < x.2
      · rw [if_pos (by simpa using h1), if_pos (by simp; exact ⟨h1.1, by omega⟩)]
        simp only [List.length_cons]; omega
      · rw [if_neg (by simpa using h1)]
        split
        · rw [List.length_cons]; omega
        · exact this
def upF (L : List Dt) (a : Ac) : Nat → Int → Int
  | 0, n => n
  | k + 1, n => if (a, n + 1) ∈ L then upF L a k (n + 1) else n
def upN (L : List Dt) (a : Ac) : Int := upF L a L.length 0
theorem upF_is {L : List Dt} {a : Ac} (k : Nat) (n : Int) (h : abv L a n ≤ k) (h0 : 0 ≤ n) (hk : ∀ j, 1 ≤ j → j ≤ n → (a, j) ∈ L) : IsUp L a (upF L a k n) := by
  induction k generalizing n with
  | zero =>
    refine ⟨h0, hk, fun (hm : (a, n + 1) ∈ L) => ?_⟩
    have := abv_lt hm
    omega
  | succ k ih =>
    unfold upF
    split
    · rename_i hm
      have := abv_lt hm
      refine ih (n + 1) (by omega) (by omega) fun j h1 h2 => ?_
      by_cases hj : j = n + 1
      · subst hj; exact hm
      · exact hk j h1 (by omega)
    · rename_i hm
      exact ⟨h0, hk, hm⟩
theorem upN_is (L : List Dt) (a : Ac) : IsUp L a (upN L a) :=
  upF_is _ _ (List.length_filter_le _ _) (by omega) (fun j h1 h2 => by omega)
theorem upN_eq {L : List Dt} {a : Ac} {n : Int} (h : IsUp L a n) : upN L a = n := isUp_unique (upN_is L a) h
/-- Dots that may be, in order. -/
def Dw (L : List Dt) : Prop := DSrt L ∧ ∀ x ∈ L, rightD x = true
theorem Dw.nil : Dw [] := ⟨List.Pairwise.nil, by simp⟩
def rBaseStep (L : List Dt) (out : List Dt) (x : Dt) : List Dt := if 0 < upN L x.1 then setL out x.1 (upN L x.1) false else out
def rBase (L : List Dt) : List Dt := L.foldl (rBaseStep L) []
def rBeyond (L : List Dt) : List Dt := L.filter fun x => decide (upN L x.1 < x.2)
theorem rBase_fold {L : List Dt} (hL : Dw L) (T out : List Dt) (ho : Vw out) (h : ∀ a, mget out a = 0 ∨ mget out a = upN L a) :
    Vw (T.foldl (rBaseStep L) out) ∧ ∀ a, (mget (T.foldl (rBaseStep L) out) a = upN L a ∨ (mget (T.foldl (rBaseStep L) out) a = 0 ∧ a ∉ T.map (·.1) ∧ mget out a = 0)) := by
  induction T generalizing out with
  | nil =>
    refine ⟨ho, fun a => ?_⟩
    rcases h a with h | h
    · exact .inr ⟨h, by simp, h⟩
    · exact .inl h
  | cons x r ih =>
    rw [List.foldl_cons]
    have hup := upN_is L x.1
    have h1 : Vw (rBaseStep L out x) ∧ ∀ a, mget (rBaseStep L out x) a = if a = x.1 then upN L x.1 else mget out a := by
      unfold rBaseStep
      split
      · rename_i hp
        rw [setL_eq ho.1]
        refine ⟨ho.set (hL.2 _ (hup.2.1 _ (by omega) (by omega))), fun a => mget_rset ho.1 _ _ _⟩
      · rename_i hp
        refine ⟨ho, fun a => ?_⟩
        split
        · rename_i e
          subst e
          have h0 := hup.1
          rcases h x.1 with h | h
          · omega
          · omega
        · rfl
    obtain ⟨h2, h3⟩ := ih _ h1.1 (fun a => by
      rw [h1.2]
      split
      · rename_i e; subst e; exact .inr rfl
      · exact h a)
    refine ⟨h2, fun a => ?_⟩
    rcases h3 a with h4 | ⟨h4, h5, h6⟩
    · exact .inl h4
    · rw [h1.2] at h6
      by_cases e : a = x.1
      · rw [if_pos e] at h6
        subst e
        exact .inl (by rw [h4, h6])
      · rw [if_neg e] at h6
        exact .inr ⟨h4, by simp; exact ⟨e, by simpa using h5⟩, h6⟩
theorem rBase_vw {L : List Dt} (hL : Dw L) : Vw (rBase L) := (rBase_fold hL L [] Vw.nil (fun a => .inl rfl)).1
theorem mget_rBase {L : List Dt} (hL : Dw L) (a : Ac) : mget (rBase L) a = upN L a := by
  rcases (rBase_fold hL L [] Vw.nil (fun a => .inl rfl)).2 a with h | ⟨h, h2, _⟩
  · exact h
  · have : upN L a = 0 := upN_eq ⟨by omega, fun j h1 h3 => by omega, fun hm => h2 (List.mem_map.2 ⟨_, hm, rfl⟩)⟩
    rw [this]; exact h

/-! A base and exceptions. -/
def inS (M B : List Dt) (d : Dt) : Prop := d ∈ B ∨ (rightD d = true ∧ d.2 ≤ mget M d.1)
structure Sw (M B : List Dt) : Prop where
  vw : Vw M
  srt : DSrt B
  right : ∀ d ∈ B, rightD d = true
def Dis (M B : List Dt) : Prop := ∀ d ∈ B, mget M d.1 < d.2
def Good (M B : List Dt) (a : Ac) : Prop := (a, mget M a + 1) ∉ B
/-- The base and the exceptions of dots. -/
structure SetL (M B L : List Dt) : Prop where
  sw : Sw M B
  dis : Dis M B
  good : ∀ a, Good M B a
  dw : Dw L
  mem : ∀ d, d ∈ L ↔ inS M B d
theorem Vw.low {M : List Dt} (h : Vw M) {a : Ac} {j : Int} (h1 : 1 ≤ j) (h2 : j ≤ mget M a) : rightD (a, j) = true := by
  have hm : (a, mget M a) ∈ M := (h.mem _).2 ⟨rfl, by simp; omega⟩
  have := (rightD_iff _).1 (h.2 _ hm)
  rw [rightD_iff]
  simp only at *
  omega
theorem SetL.up {M B L : List Dt} (h : SetL M B L) (a : Ac) : upN L a = mget M a := by
  refine upN_eq ⟨h.sw.vw.ge0 a, fun j h1 h2 => (h.mem _).2 (.inr ⟨h.sw.vw.low h1 h2, h2⟩), fun hm => ?_⟩
  rcases (h.mem _).1 hm with h1 | ⟨_, h1⟩
  · exact h.good a h1
  · simp only at h1; omega
theorem SetL.base {M B L : List Dt} (h : SetL M B L) : rBase L = M :=
  vw_ext (rBase_vw h.dw) h.sw.vw fun a => by rw [mget_rBase h.dw, h.up]
theorem SetL.beyond {M B L : List Dt} (h : SetL M B L) : rBeyond L = B := by
  refine dsrt_ext (h.dw.1.filter _) h.sw.srt fun x => ?_
  unfold rBeyond
  rw [List.mem_filter, h.mem, h.up, decide_eq_true_eq]
  constructor
  · rintro ⟨h1 | ⟨_, h1⟩, h2⟩
    · exact h1
    · omega
  · intro hx
    exact ⟨.inl hx, h.dis x hx⟩
theorem SetL.nil : SetL [] [] [] where
  sw := ⟨Vw.nil, List.Pairwise.nil, by simp⟩
  dis := by intro d hd; cases hd
  good := by intro a h; cases h
  dw := Dw.nil
  mem d := by
    unfold inS
    constructor
    · intro h; cases h
    · rintro (h | ⟨h1, h2⟩)
      · cases h
      · have := (rightD_iff d).1 h1
        have : mget ([] : List Dt) d.1 = 0 := rfl
        omega
/-- What filling does at an actor. -/
structure FillR (M B : List Dt) (a : Ac) (M' B' : List Dt) : Prop where
  sw : Sw M' B'
  same : ∀ e, inS M' B' e ↔ inS M B e
  num : ∀ c, c ≠ a → mget M' c = mget M c
  bey : ∀ e : Dt, e.1 ≠ a → (e ∈ B' ↔ e ∈ B)
  sub : ∀ e ∈ B', e ∈ B
  dis : Dis M B → Dis M' B'
theorem FillR.refl {M B : List Dt} (h : Sw M B) (a : Ac) : FillR M B a M B := ⟨h, fun _ => Iff.rfl, fun _ _ => rfl, fun _ _ => Iff.rfl, fun _ h => h, fun h => h⟩
theorem FillR.trans {M B M1 B1 M2 B2 : List Dt} {a : Ac} (h : FillR M B a M1 B1) (k : FillR M1 B1 a M2 B2) : FillR M B a M2 B2 :=
  ⟨k.sw, fun e => (k.same e).trans (h.same e), fun c hc => (k.num c hc).trans (h.num c hc), fun e he => (k.bey e he).trans (h.bey e he), fun e he => h.sub e (k.sub e he), fun hd => k.dis (h.dis hd)⟩
theorem FillR.good {M B M' B' : List Dt} {a c : Ac} (h : FillR M B a M' B') (hc : c ≠ a) (hg : Good M B c) : Good M' B' c := by
  unfold Good at *
  rw [h.num c hc, h.bey _ (by simpa using hc)]
  exact hg
theorem FillR.step {M B : List Dt} (h : Sw M B) {a : Ac} {n : Int} (hn : n = mget M a + 1) (hd : (a, n) ∈ B) :
    FillR M B a (rset M a n) (B.filter fun x => decide (x ≠ (a, n))) := by
  have hr := h.right _ hd
  have hv : Vw (rset M a n) := h.vw.set hr
  have hmem : ∀ e : Dt, e ∈ (B.filter fun x => decide (x ≠ (a, n))) ↔ e ∈ B ∧ e ≠ (a, n) := fun e => by rw [List.mem_filter, decide_eq_true_eq]
  refine ⟨⟨hv, h.srt.filter _, fun e he => h.right e ((hmem e).1 he).1⟩, fun e => ?_, fun c hc => by rw [mget_rset h.vw.1, if_neg hc], fun e he => ?_, fun e he => ((hmem e).1 he).1, fun hdis e he => ?_⟩
  · unfold inS
    rw [hmem, mget_rset h.vw.1]
    constructor
    · rintro (⟨h1, _⟩ | ⟨h1, h2⟩)
      · exact .inl h1
      · split at h2
        · rename_i ha
          by_cases he : e.2 = n
          · have : e = (a, n) := Prod.ext ha he
            rw [this]; exact .inl hd
          · rw [ha]
            exact .inr ⟨h1, by omega⟩
        · exact .inr ⟨h1, h2⟩
    · rintro (h1 | ⟨h1, h2⟩)
      · by_cases he : e = (a, n)
        · subst he
          exact .inr ⟨hr, by simp⟩
        · exact .inl ⟨h1, he⟩
      · refine .inr ⟨h1, ?_⟩
        split
        · rename_i ha
          rw [ha] at h2; omega
        · exact h2
  · rw [hmem]
    constructor
    · exact fun h => h.1
    · exact fun h => ⟨h, fun e' => he (by rw [e'])⟩
  · obtain ⟨h1, h2⟩ := (hmem e).1 he
    have := hdis e h1
    rw [mget_rset h.vw.1]
    split
    · rename_i ha
      rw [ha] at this
      have : e.2 ≠ n := fun e2 => h2 (Prod.ext ha e2)
      omega
    · exact this
theorem filter_lt {α : Type} {p : α → Bool} {l : List α} {x : α} (hx : x ∈ l) (hp : p x = false) : (l.filter p).length < l.length :=
  List.length_filter_lt_length_iff_exists.2 ⟨x, hx, by simp [hp]⟩
/-- A dot more: put beyond, then filled. -/
theorem SetL.add {M B L M' B' : List Dt} (h : SetL M B L) {d : Dt} (hr : rightD d = true) (hn : ¬ inS M B d)
    (hf : FillR M (insD B d) d.1 M' B') (hg : Good M' B' d.1) : SetL M' B' (insD L d) := by
  have hdis : Dis M (insD B d) := fun e he => by
    rcases (mem_insD _ _ _).1 he with rfl | he
    · rcases Int.lt_or_le (mget M e.1) e.2 with h1 | h1
      · exact h1
      · exact absurd (.inr ⟨hr, h1⟩) hn
    · exact h.dis e he
  refine ⟨hf.sw, hf.dis hdis, fun a => ?_, ⟨srt_insD h.dw.1 d, fun x hx => ?_⟩, fun e => ?_⟩
  · by_cases ha : a = d.1
    · subst ha; exact hg
    · refine hf.good ha fun hm => ?_
      rcases (mem_insD _ _ _).1 hm with h1 | h1
      · exact ha (by rw [← h1])
      · exact h.good a h1
  · rcases (mem_insD _ _ _).1 hx with rfl | hx
    · exact hr
    · exact h.dw.2 x hx
  · rw [mem_insD, hf.same, h.mem]
    unfold inS
    rw [mem_insD]
    constructor
    · rintro (h1 | h1 | h1)
      · exact .inl (.inl h1)
      · exact .inl (.inr h1)
      · exact .inr h1
    · rintro ((h1 | h1) | h1)
      · exact .inl h1
      · exact .inr (.inl h1)
      · exact .inr (.inr h1)
/-- As the document adds. -/
def rAdd (L : List Dt) (d : Dt) : List Dt := if rightD d = true then dsort (L ++ [d]) else L
theorem rAdd_right {L : List Dt} (h : Dw L) {d : Dt} (hr : rightD d = true) : rAdd L d = insD L d := by
  unfold rAdd
  rw [if_pos hr]
  refine dsort_ext (srt_insD h.1 d) fun x => ?_
  rw [List.mem_append, List.mem_singleton, mem_insD]
  exact Or.comm
theorem insD_mem {L : List Dt} (h : DSrt L) {d : Dt} (hd : d ∈ L) : insD L d = L :=
  dsrt_ext (srt_insD h d) h fun x => by
    rw [mem_insD]
    constructor
    · rintro (rfl | h)
      · exact hd
      · exact h
    · exact .inr
theorem Dw.add {L : List Dt} (h : Dw L) (d : Dt) : Dw (rAdd L d) := by
  by_cases hr : rightD d = true
  · rw [rAdd_right h hr]
    refine ⟨srt_insD h.1 d, fun x hx => ?_⟩
    rcases (mem_insD _ _ _).1 hx with rfl | hx
    · exact hr
    · exact h.2 x hx
  · unfold rAdd
    rw [if_neg hr]; exact h
theorem mem_rAdd {L : List Dt} (h : Dw L) (d x : Dt) : x ∈ rAdd L d ↔ (x = d ∧ rightD d = true) ∨ x ∈ L := by
  by_cases hr : rightD d = true
  · rw [rAdd_right h hr, mem_insD]; simp [hr]
  · unfold rAdd
    rw [if_neg hr]; simp [hr]
theorem length_insD {L : List Dt} (d : Dt) (h : d ∉ L) : (insD L d).length = L.length + 1 := by
  induction L with
  | nil => rfl
  | cons x r ih =>
    simp only [List.mem_cons, not_or] at h
    unfold insD
    split
    · simp [ih h.2]
    · rw [if_neg (fun e => h.1 e.symm)]; simp
/-- Sets made of any dots, one by one. -/
def smade (l : List Dt) : List Dt := (l.take 60).foldl rAdd []
theorem dw_fold (l L : List Dt) (h : Dw L) : Dw (l.foldl rAdd L) ∧ ∀ x, x ∈ l.foldl rAdd L ↔ x ∈ L ∨ (x ∈ l ∧ rightD x = true) := by
  induction l generalizing L with
  | nil => exact ⟨h, by simp⟩
  | cons d r ih =>
    obtain ⟨h1, h2⟩ := ih _ (h.add d)
    refine ⟨h1, fun x => ?_⟩
    rw [List.foldl_cons, h2, mem_rAdd h, List.mem_cons]
    constructor
    · rintro ((⟨rfl, h⟩ | h) | h)
      · exact .inr ⟨.inl rfl, h⟩
      · exact .inl h
      · exact .inr ⟨.inr h.1, h.2⟩
    · rintro (h | ⟨rfl | h, k⟩)
      · exact .inl (.inr h)
      · exact .inl (.inl ⟨rfl, k⟩)
      · exact .inr ⟨h, k⟩
theorem dw_smade (l : List Dt) : Dw (smade l) := (dw_fold _ [] Dw.nil).1
theorem mem_smade (l : List Dt) (x : Dt) : x ∈ smade l ↔ x ∈ l.take 60 ∧ rightD x = true := by
  rw [smade, (dw_fold _ [] Dw.nil).2]; simp
end Go.Proofs.Ytailbppddnegoaa
