/- Layer 18 (seen), Join: the plain facts, and what its loops keep. -/
import Derived.Test.YtailbppddnegoaaZB
namespace Go.Proofs.Ytailbppddnegoaa
open Go.RowKit
set_option linter.unusedVariables false
set_option maxRecDepth 100000
attribute [local go_sem ↓] Go.wp_at_zero Go.wp_at_succ

theorem insD_len (L : List Dt) (d : Dt) : (insD L d).length ≤ L.length + 1 := by
  induction L with
  | nil => simp [insD]
  | cons x r ih =>
    unfold insD
    split
    · simp only [List.length_cons]; omega
    · split
      · omega
      · simp only [List.length_cons]; omega
theorem foldl_insD_len (l L : List Dt) : (l.foldl insD L).length ≤ L.length + l.length := by
  induction l generalizing L with
  | nil => simp
  | cons x r ih =>
    rw [List.foldl_cons]
    have := ih (insD L x)
    have := insD_len L x
    simp only [List.length_cons]; omega
theorem dsort_len (l : List Dt) : (dsort l).length ≤ l.length := by
  have := foldl_insD_len l []
  unfold dsort
  simpa using this
theorem dw_dsort {l : List Dt} (h : ∀ x ∈ l, rightD x = true) : Dw (dsort l) := ⟨srt_dsort l, fun x hx => h x ((mem_dsort l x).1 hx)⟩
/-- What a set has once another one's base is raised in it. -/
theorem inS_join {M B MO : List Dt} (hv : Vw M) (ho : Vw MO) (d : Dt) : inS (rjoin M MO) B d ↔ inS M B d ∨ (rightD d = true ∧ d.2 ≤ mget MO d.1) := by
  unfold inS
  rw [mget_join hv ho.1 (fun x hx => .inl (ho.2 x hx))]
  constructor
  · rintro (h | ⟨h1, h2⟩)
    · exact .inl (.inl h)
    · by_cases h3 : d.2 ≤ mget M d.1
      · exact .inl (.inr ⟨h1, h3⟩)
      · exact .inr ⟨h1, by omega⟩
  · rintro ((h | ⟨h1, h2⟩) | ⟨h1, h2⟩)
    · exact .inl h
    · exact .inr ⟨h1, by omega⟩
    · exact .inr ⟨h1, by omega⟩
/-- The exceptions that the base has not. -/
def cutB (M B : List Dt) : List Dt := B.filter fun d => !vhasB M d
def cutJ (M B : List Dt) (j : Nat) : List Dt := B.filter fun d => !(decide (d ∈ B.take j) && vhasB M d)
theorem cutJ_zero (M B : List Dt) : cutJ M B 0 = B := by
  unfold cutJ
  rw [List.filter_eq_self]
  intro a _
  simp
theorem cutJ_all (M B : List Dt) (j : Nat) (h : B.length ≤ j) : cutJ M B j = cutB M B := by
  unfold cutJ cutB
  refine List.filter_congr fun x hx => ?_
  rw [List.take_of_length_le h]
  simp [hx]
theorem cutJ_yes {M B : List Dt} {j : Nat} {x : Dt} (hx : B[j]? = some x) (h : vhasB M x = true) : cutJ M B (j + 1) = (cutJ M B j).filter fun d => decide (d ≠ x) := by
  unfold cutJ
  rw [List.filter_filter]
  refine List.filter_congr fun d hd => ?_
  rw [List.take_add_one, hx]
  by_cases e : d = x
  · subst e
    simp [h]
  · have : (d ∈ B.take j ++ (some x).toList) ↔ d ∈ B.take j := by simp [e]
    rw [show decide (d ∈ B.take j ++ (some x).toList) = decide (d ∈ B.take j) from decide_eq_decide.2 this]
    simp [e]
theorem cutJ_no {M B : List Dt} {j : Nat} {x : Dt} (hx : B[j]? = some x) (h : vhasB M x = false) : cutJ M B (j + 1) = cutJ M B j := by
  unfold cutJ
  refine List.filter_congr fun d hd => ?_
  rw [List.take_add_one, hx]
  by_cases e : d = x
  · subst e
    simp [h]
  · have : (d ∈ B.take j ++ (some x).toList) ↔ d ∈ B.take j := by simp [e]
    rw [show decide (d ∈ B.take j ++ (some x).toList) = decide (d ∈ B.take j) from decide_eq_decide.2 this]
theorem inS_cut (M B : List Dt) (hB : ∀ d ∈ B, rightD d = true) (d : Dt) : inS M (cutB M B) d ↔ inS M B d := by
  unfold inS cutB
  rw [List.mem_filter]
  constructor
  · rintro (⟨h, _⟩ | h)
    · exact .inl h
    · exact .inr h
  · rintro (h | h)
    · cases hv : vhasB M d
      · exact .inl ⟨h, by simp⟩
      · unfold vhasB at hv
        simp only [Bool.and_eq_true, decide_eq_true_eq] at hv
        exact .inr hv
    · exact .inr h
theorem dis_cut (M B : List Dt) (hB : ∀ d ∈ B, rightD d = true) : Dis M (cutB M B) := fun d hd => by
  unfold cutB at hd
  obtain ⟨h1, h2⟩ := List.mem_filter.1 hd
  unfold vhasB at h2
  rw [hB d h1] at h2
  simp at h2
  exact h2
/-- What filling keeps. -/
structure FI (M1 B2 T : List Dt) (j : Nat) (M B : List Dt) : Prop where
  dis : Dis M B
  same : ∀ d, inS M B d ↔ inS M1 B2 d
  sub : ∀ d ∈ B, d ∈ B2
  good : ∀ d ∈ T.take j, Good M B d.1
theorem FI.start {M1 B2 T : List Dt} (h : Dis M1 B2) : FI M1 B2 T 0 M1 B2 := ⟨h, fun _ => Iff.rfl, fun _ h => h, by simp⟩
theorem FI.step {M1 B2 T M B M' B' : List Dt} {j : Nat} {x : Dt} (h : FI M1 B2 T j M B) (hx : T[j]? = some x) (hf : FillR M B x.1 M' B') (hg : Good M' B' x.1) : FI M1 B2 T (j + 1) M' B' := by
  refine ⟨hf.dis h.dis, fun d => (hf.same d).trans (h.same d), fun d hd => h.sub d (hf.sub d hd), fun d hd => ?_⟩
  by_cases e : d.1 = x.1
  · rw [e]; exact hg
  · rw [List.take_add_one, hx, List.mem_append] at hd
    rcases hd with hd | hd
    · exact hf.good e (h.good d hd)
    · simp at hd
      subst hd
      exact absurd rfl e
theorem FI.all {M1 B2 M B : List Dt} {j : Nat} (h : FI M1 B2 B2 j M B) (hj : B2.length ≤ j) (a : Ac) : Good M B a := by
  intro hm
  have h1 := h.sub _ hm
  exact h.good (a, mget M a + 1) (by rw [List.take_of_length_le hj]; exact h1) hm
structure FG (M1 B2 M B : List Dt) : Prop where
  dis : Dis M B
  same : ∀ d, inS M B d ↔ inS M1 B2 d
  good : ∀ a, Good M B a
theorem FG.step {M1 B2 M B M' B' : List Dt} {a : Ac} (h : FG M1 B2 M B) (hf : FillR M B a M' B') (hg : Good M' B' a) : FG M1 B2 M' B' := by
  refine ⟨hf.dis h.dis, fun d => (hf.same d).trans (h.same d), fun c => ?_⟩
  by_cases e : c = a
  · rw [e]; exact hg
  · exact hf.good e (h.good c)
/-- The dots of a set that another one's base is raised in. -/
def midL (M1 B2 L O : List Dt) : List Dt := (dsort (L ++ O)).filter fun d => hasS M1 B2 d
theorem FG.setL {M B L MO BO LO M4 B4 : List Dt} (h : SetL M B L) (ho : SetL MO BO LO) (hs : Sw M4 B4) (hf : FG (rjoin M MO) (cutB (rjoin M MO) B) M4 B4) : SetL M4 B4 (midL (rjoin M MO) (cutB (rjoin M MO) B) L LO) := by
  refine ⟨hs, hf.dis, hf.good, ⟨(srt_dsort _).filter _, fun x hx => ?_⟩, fun d => ?_⟩
  · have := (mem_dsort _ _).1 (List.mem_filter.1 hx).1
    rcases List.mem_append.1 this with h1 | h1
    · exact h.dw.2 x h1
    · exact ho.dw.2 x h1
  · unfold midL
    rw [List.mem_filter, mem_dsort, hasS_iff, hf.same]
    refine ⟨fun h => h.2, fun hd => ⟨?_, hd⟩⟩
    rw [inS_cut _ _ h.sw.right, inS_join h.sw.vw ho.sw.vw] at hd
    rw [List.mem_append]
    rcases hd with hd | hd
    · exact .inl ((h.mem d).2 hd)
    · exact .inr ((ho.mem d).2 (.inr hd))
theorem mid_all {M B L MO BO LO : List Dt} (h : SetL M B L) (ho : SetL MO BO LO) : BO.foldl rAdd (midL (rjoin M MO) (cutB (rjoin M MO) B) L LO) = dsort (L ++ LO) := by
  have hdw : Dw (midL (rjoin M MO) (cutB (rjoin M MO) B) L LO) := by
    refine ⟨(srt_dsort _).filter _, fun x hx => ?_⟩
    have := (mem_dsort _ _).1 (List.mem_filter.1 hx).1
    rcases List.mem_append.1 this with h1 | h1
    · exact h.dw.2 x h1
    · exact ho.dw.2 x h1
  obtain ⟨h1, h2⟩ := dw_fold BO _ hdw
  symm
  refine dsort_ext h1.1 fun x => ?_
  rw [h2]
  have hmid : x ∈ midL (rjoin M MO) (cutB (rjoin M MO) B) L LO ↔ (x ∈ L ∨ x ∈ LO) ∧ (inS M B x ∨ (rightD x = true ∧ x.2 ≤ mget MO x.1)) := by
    unfold midL
    rw [List.mem_filter, mem_dsort, hasS_iff, inS_cut _ _ h.sw.right, inS_join h.sw.vw ho.sw.vw, List.mem_append]
  rw [hmid, List.mem_append]
  constructor
  · rintro (hx | hx)
    · exact .inl ⟨.inl hx, .inl ((h.mem x).1 hx)⟩
    · rcases (ho.mem x).1 hx with h3 | h3
      · exact .inr ⟨h3, ho.dw.2 x hx⟩
      · exact .inl ⟨.inr hx, .inr h3⟩
  · rintro (⟨hx, _⟩ | ⟨hx, hr⟩)
    · exact hx
    · exact .inr ((ho.mem x).2 (.inl hx))
theorem mid_len {M1 B2 L O : List Dt} : (midL M1 B2 L O).length ≤ L.length + O.length := by
  have h1 := List.length_filter_le (fun d => hasS M1 B2 d) (dsort (L ++ O))
  have h2 := dsort_len (L ++ O)
  rw [List.length_append] at h2
  unfold midL
  omega
theorem foldl_rAdd_len (l L : List Dt) (h : Dw L) : (l.foldl rAdd L).length ≤ L.length + l.length := by
  induction l generalizing L with
  | nil => simp
  | cons x r ih =>
    rw [List.foldl_cons]
    have h1 := ih (rAdd L x) (h.add x)
    have h2 := rAdd_le h x
    simp only [List.length_cons]; omega
/-- What Join's loops keep: the set, the other one, and the slice that is read. -/
structure JI (w : World) (s v b g so vo bo go : Nat) (MO BO : List Dt) (A : Option Addr) (T M B : List Dt) (W : World) : Prop where
  set : SetIs W s v b g M B
  oth : SetIs W so vo bo go MO BO
  at_ : MsAt W A T
  ch : Ch (fun k => k = b ∨ k = g) w W
  far : ∀ k, bl A = some k → k ≠ b ∧ k ≠ g
  ap : ∀ k, k = so ∨ k = vo ∨ k = bo ∨ k = go → ¬ (k = b ∨ k = g)
section
variable {w W W' : World} {s v b g so vo bo go : Nat} {MO BO T M B : List Dt} {A : Option Addr}
theorem JI.up (h : JI w s v b g so vo bo go MO BO A T M B W) (hb : Below W.heap.size W W') : JI w s v b g so vo bo go MO BO A T M B W' :=
  ⟨h.set.up hb, h.oth.up hb, h.at_.up hb, h.ch.trans (below_ch (S := fun k => k = b ∨ k = g) hb) (fun k _ h => h), h.far, h.ap⟩
theorem JI.drew (h : JI w s v b g so vo bo go MO BO A T M B W) : JI w s v b g so vo bo go MO BO A T M B W.drew := h.up (Below.drew (Below.refl _ _))
theorem JI.alloc (h : JI w s v b g so vo bo go MO BO A T M B W) (o : Obj) : JI w s v b g so vo bo go MO BO A T M B (W.alloc o) := h.up ((Below.refl _ _).alloc (Nat.le_refl _) o)
theorem JI.to {M' B' : List Dt} (h : JI w s v b g so vo bo go MO BO A T M B W) (hs : SetIs W' s v b g M' B') (hc : Ch (fun k => k = b ∨ k = g) W W') : JI w s v b g so vo bo go MO BO A T M' B' W' :=
  ⟨hs, h.oth.ch hc (h.ap so (by simp)) (h.ap vo (by simp)) (h.ap bo (by simp)) (h.ap go (by simp)), h.at_.ch hc (fun k hk e => by have := h.far k hk; rcases e with e | e <;> omega), h.ch.trans hc (fun k _ h => h), h.far, h.ap⟩
theorem JI.new {A' : Option Addr} {T' : List Dt} {c : Nat} {e : TypeId} (h : JI w s v b g so vo bo go MO BO A T M B W) (hb : Below W.heap.size W W') (ho : Own W' W.heap.size e 3 A' T'.length c (dts T')) : JI w s v b g so vo bo go MO BO A' T' M B W' :=
  ⟨h.set.up hb, h.oth.up hb, MsAt.own ho, h.ch.trans (below_ch (S := fun k => k = b ∨ k = g) hb) (fun k _ h => h), fun k hk => by
    have := ho.bl_lo k hk
    have := h.set.ltb
    have := h.set.ltg
    omega, h.ap⟩
end
end Go.Proofs.Ytailbppddnegoaa
