/- Merged: Y8, Y9, Y10. -/
import Derived.Test.YtailbppddnegoaaYB
import Derived.Test.YtailbppddnegoaaDD
import Derived.Deep.DeepCutAuto
import Derived.WalkLawsBesides
/- Layer 17, the document's marks: Same, Get, Has, Set. -/
namespace Go.Proofs.Ytailbppddnegoaa
open Go.RowKit
set_option linter.unusedVariables false
set_option maxRecDepth 100000
attribute [local go_sem ↓] Go.wp_at_zero Go.wp_at_succ

theorem four3 (x1 x2 x3 d1 d2 d3 : Int) : (x1 = d1 ∧ x2 = d2 ∧ x3 = d3) ∨ (x1 ≠ d1 ∨ (x1 = d1 ∧ x2 ≠ d2) ∨ (x1 = d1 ∧ x2 = d2 ∧ x3 ≠ d3)) := by omega
theorem rsame17_any (w : World) (B B' : Nat) (A A' : Option Addr) (c c' : Nat) (L M : List Dt) (hr : Ds w B A L) (hr' : Ds w B' A' M) (hB : B ≤ w.heap.size) (hB' : B' ≤ w.heap.size) (hn : L.length ≤ 9223372036854775807) :
    Calls Try.prog 22 #[.slice A L.length c, .slice A' M.length c'] w fun e w' => e = .returned (.bool (decide (L = M))) ∧ Below w.heap.size w w' := by
  by_cases hne : L.length = M.length
  · have HL2 := Lib.hid hne
    rw [← hne]
    generalize hlen : L.length = n at *
    have HL := Lib.hid hlen
    have HR := Lib.hid (And.intro hr hr')
    clear hlen hr hr' hne
    generalize hN : w.heap.size = N at *
    have B0 := Lib.hid (Below.refl N w)
    go_enter Try.func22, Try.ntmps22
    go_wp2_with fail
    go_loopw [5] (fun i wr => ∃ j : Nat, j ≤ n ∧ i = .int .i64 j ∧ L.take j = M.take j ∧ Below N w wr) (fun i _ => n - (intOf i).toNat)
    case atStart => exact ⟨0, by omega, rfl, by simp, B0.out⟩
    case round =>
      obtain ⟨j, hj, rfl, hno, hb⟩ := hrel
      have HNO := Lib.hid hno
      clear hno B0
      by_cases hlt : j < n
      · obtain ⟨x, hx⟩ : ∃ x, L[j]? = some x := ⟨L[j]'(by have := HL.out; omega), List.getElem?_eq_getElem _⟩
        obtain ⟨y, hy⟩ : ∃ y, M[j]? = some y := ⟨M[j]'(by have := HL2.out; omega), List.getElem?_eq_getElem _⟩
        obtain ⟨b0, o0, hA, hb0, c0, c1, c2⟩ := (HR.out.1.below (hb.mono hB)).at_ hx
        obtain ⟨b1, o1, hA', hb1, e0, e1, e2⟩ := (HR.out.2.below (hb.mono hB')).at_ hy
        have HX := Lib.hid (And.intro hx hy)
        have HB := Lib.hid hb
        clear hx hy hb
        obtain ⟨⟨x1, x2⟩, x3⟩ := x
        obtain ⟨⟨y1, y2⟩, y3⟩ := y
        simp only at c0 c1 c2 e0 e1 e2
        subst hA hA'
        rcases four3 x1 x2 x3 y1 y2 y3 with ⟨rfl, rfl, rfl⟩ | he
        · have hno2 := Lib.hid (show L.take (j + 1) = M.take (j + 1) by
            rw [List.take_add_one, List.take_add_one, HX.out.1, HX.out.2, HNO.out])
          go_wp2_with fail
          go_region
          go_wp2
          go_roundw
          case rel => exact ⟨j + 1, by omega, by go_num, hno2.out, HB.out.drew⟩
          case measure => simp [intOf]; omega
        · have hin := Lib.hid (show decide (L = M) = false from decide_eq_false fun h => by
            subst h
            have := HX.out.1.symm.trans HX.out.2
            simp at this
            rcases he with he | ⟨_, he⟩ | ⟨_, _, he⟩
            · exact he this.1.1
            · exact he this.1.2
            · exact he this.2)
          rcases he with h1 | ⟨h1, h2⟩ | ⟨h1, h2, h3⟩
          all_goals
            go_wp2_with fail
            go_region
            go_wp2
            go_ret
            exact ⟨ret_bool hin.out.symm, HB.out.drew⟩
      · have hj' : j = n := by omega
        subst hj'
        have hin := Lib.hid (show decide (L = M) = true from decide_eq_true (by
          have := HNO.out
          rwa [List.take_of_length_le (by have := HL.out; omega), List.take_of_length_le (by have := HL2.out; omega)] at this))
        have HB := Lib.hid hb
        clear hb
        go_wp2
        go_ret
        exact ⟨ret_bool hin.out.symm, HB.out⟩
  · have hin : decide (L = M) = false := decide_eq_false fun h => hne (by rw [h])
    rw [hin]
    have B0 := Lib.hid (Below.refl w.heap.size w)
    have h1 : ((L.length : Int) == (M.length : Int)) = false := by simp; omega
    clear hr hr' hin
    generalize L.length = n at *
    generalize M.length = m at *
    go_enter Try.func22, Try.ntmps22
    go_wp2
    go_ret
    exact ⟨rfl, B0.out⟩
theorem two2 (x1 x2 d1 d2 : Int) : (x1 = d1 ∧ x2 = d2) ∨ (x1 ≠ d1 ∨ (x1 = d1 ∧ x2 ≠ d2)) := by omega
theorem mget_take_none {L : List Dt} {a : Ac} {j : Nat} {x : Dt} (hx : L[j]? = some x) (h : ∀ y ∈ L.take j, y.1 ≠ a) (he : x.1 = a) : mget L a = x.2 := by
  induction L generalizing j with
  | nil => simp at hx
  | cons y r ih =>
    cases j with
    | zero =>
      simp at hx
      subst hx
      rw [mget_cons, if_pos he]
    | succ j =>
      rw [mget_cons, if_neg (h y (by simp))]
      exact ih (by simpa using hx) (fun z hz => h z (by simp [hz]))
theorem mget_no {L : List Dt} {a : Ac} (h : ∀ y ∈ L, y.1 ≠ a) : mget L a = 0 := mget_none fun hm => by
  obtain ⟨y, hy, e⟩ := List.mem_map.1 hm
  exact h y hy e
set_option maxHeartbeats 1000000 in
theorem rget17_any (w : World) (B : Nat) (A : Option Addr) (c : Nat) (L : List Dt) (a : Ac) (hr : Ds w B A L) (hB : B ≤ w.heap.size) (hn : L.length ≤ 9223372036854775807) :
    Calls Try.prog 27 #[.slice A L.length c, acV a] w fun e w' => e = .returned (.int .i64 (mget L a)) ∧ Below w.heap.size w w' := by
  generalize hlen : L.length = n at *
  have HL := Lib.hid hlen
  have HR := Lib.hid hr
  clear hlen hr
  obtain ⟨d1, d2⟩ := a
  have H0 := Lib.hid (And.intro (Whole.new w 25 #[.int .i64 d1, .int .i64 d2]) ((Below.refl w.heap.size w).alloc (Nat.le_refl _) (.cells #[.int .i64 d1, .int .i64 d2] 25)))
  generalize hN : w.heap.size = N at *
  unfold acV
  go_enter Try.func27, Try.ntmps27
  go_wp2_with fail
  generalize (w.alloc (.cells #[.int .i64 d1, .int .i64 d2] 25)) = W0 at *
  go_loopw [5] (fun i wr => ∃ j : Nat, j ≤ n ∧ i = .int .i64 j ∧ (∀ y ∈ L.take j, y.1 ≠ (d1, d2)) ∧ Whole wr N 25 #[.int .i64 d1, .int .i64 d2] ∧ Below N w wr) (fun i _ => n - (intOf i).toNat)
  case atStart => exact ⟨0, by omega, rfl, by simp, H0.out.1, H0.out.2⟩
  case round =>
    obtain ⟨j, hj, rfl, hno, hW, hb⟩ := hrel
    clear H0
    have HNO := Lib.hid hno
    clear hno
    by_cases hlt : j < n
    · obtain ⟨x, hx⟩ : ∃ x, L[j]? = some x := ⟨L[j]'(by have := HL.out; omega), List.getElem?_eq_getElem _⟩
      obtain ⟨b0, o0, hA, hb0, c0, c1, c2⟩ := (HR.out.below (hb.mono hB)).at_ hx
      have HX := Lib.hid hx
      have HW := Lib.hid (And.intro hW (And.intro hb (And.intro c0 (And.intro c1 c2))))
      clear hx hW hb c0 c1 c2
      obtain ⟨⟨x1, x2⟩, x3⟩ := x
      subst hA
      rcases two2 x1 x2 d1 d2 with ⟨rfl, rfl⟩ | he
      · have hin := Lib.hid (mget_take_none HX.out HNO.out rfl)
        have hc2 : wr.drew.cell? ⟨b0, o0 + j * 3 + 2, none⟩ = some (.int .i64 x3) := HW.out.2.2.2.2
        go_wp2_with fail
        refine wp_region_held_drew (S := (fun W => W.cell? ⟨b0, o0 + j * 3, none⟩ = some (.int .i64 x1) ∧ W.cell? ⟨b0, o0 + j * 3 + 1, none⟩ = some (.int .i64 x2) ∧ W.cell? ⟨N, 0, none⟩ = some (.int .i64 x1) ∧ W.cell? ⟨N, 1, none⟩ = some (.int .i64 x2))) (by kernel_rfl) ?_ (fun hHeld => ?_)
        · (try dsimp only); exact ⟨HW.out.2.2.1, HW.out.2.2.2.1, by rw [HW.out.1.drew.cell]; rfl, by rw [HW.out.1.drew.cell]; rfl⟩
        refine wpAnyH_take (i := 0) (v := ?_) rfl (by kernel_rfl) (by kernel_rfl) (by kernel_rfl) (fun _ _ _ h => h) (Or.inl ⟨by rfl, ?_⟩) (by assumption) ?_
        rotate_left
        first | (focus ((intro w hSw; (try dsimp only at hSw); go_simp); (try with_reducible rfl); done)) | fail
        try simp only [Act.put, List.getElem_toArray, List.getElem_cons_zero, List.setIfInBounds_toArray, List.set_cons_zero, List.set_cons_succ]
        refine wpAnyH_take (i := 1) (v := ?_) rfl (by kernel_rfl) (by kernel_rfl) (by kernel_rfl) (fun _ _ _ h => h) (Or.inl ⟨by rfl, ?_⟩) (by assumption) ?_
        rotate_left
        first | (focus ((intro w hSw; (try dsimp only at hSw); go_simp); (try with_reducible rfl); done)) | fail
        try simp only [Act.put, List.getElem_toArray, List.getElem_cons_zero, List.getElem_cons_succ, List.setIfInBounds_toArray, List.set_cons_zero, List.set_cons_succ]
        refine wpAnyH_take (i := 2) (v := ?_) rfl (by kernel_rfl) (by kernel_rfl) (by kernel_rfl) (fun _ _ _ h => h) (Or.inl ⟨by rfl, ?_⟩) (by assumption) ?_
        rotate_left
        first | (focus ((intro w hSw; (try dsimp only at hSw); go_simp); (try with_reducible rfl); done)) | fail
        try simp only [Act.put, List.getElem_toArray, List.getElem_cons_zero, List.getElem_cons_succ, List.setIfInBounds_toArray, List.set_cons_zero, List.set_cons_succ]
        refine wpAnyH_take (i := 3) (v := ?_) rfl (by kernel_rfl) (by kernel_rfl) (by kernel_rfl) (fun _ _ _ h => h) (Or.inl ⟨by rfl, ?_⟩) (by assumption) ?_
        rotate_left
        first | (focus ((intro w hSw; (try dsimp only at hSw); go_simp); (try with_reducible rfl); done)) | fail
        try simp only [Act.put, List.getElem_toArray, List.getElem_cons_zero, List.getElem_cons_succ, List.setIfInBounds_toArray, List.set_cons_zero, List.set_cons_succ]
        refine wpAnyH_take (i := 4) (v := ?_) rfl (by kernel_rfl) (by kernel_rfl) (by kernel_rfl) (fun _ _ _ h => h) (Or.inl ⟨by rfl, ?_⟩) (by assumption) ?_
        rotate_left
        first | (focus ((intro w hSw; (try dsimp only at hSw); go_simp); (try with_reducible rfl); done)) | fail
        try simp only [Act.put, List.getElem_toArray, List.getElem_cons_zero, List.getElem_cons_succ, List.setIfInBounds_toArray, List.set_cons_zero, List.set_cons_succ]
        refine wpAnyH_take (i := 5) (v := ?_) rfl (by kernel_rfl) (by kernel_rfl) (by kernel_rfl) (fun _ _ _ h => h) (Or.inl ⟨by rfl, ?_⟩) (by assumption) ?_
        rotate_left
        first | (focus ((intro w hSw; (try dsimp only at hSw); go_simp); (try with_reducible rfl); done)) | fail
        try simp only [Act.put, List.getElem_toArray, List.getElem_cons_zero, List.getElem_cons_succ, List.setIfInBounds_toArray, List.set_cons_zero, List.set_cons_succ]
        refine wpAnyH_take (i := 6) (v := ?_) rfl (by kernel_rfl) (by kernel_rfl) (by kernel_rfl) (fun _ _ _ h => h) (Or.inl ⟨by rfl, ?_⟩) (by assumption) ?_
        rotate_left
        first | (focus ((intro w hSw; (try dsimp only at hSw); go_simp); (try with_reducible rfl); done)) | fail
        try simp only [Act.put, List.getElem_toArray, List.getElem_cons_zero, List.getElem_cons_succ, List.setIfInBounds_toArray, List.set_cons_zero, List.set_cons_succ]
        refine wpAnyH_done (by kernel_rfl) ?_ _
        go_wp2
        go_ret
        exact ⟨ret_int hin.out.symm, HW.out.2.1.drew⟩
      · have hno2 := Lib.hid (show ∀ y ∈ L.take (j + 1), y.1 ≠ (d1, d2) by
          intro y hy
          rw [List.take_add_one, HX.out, List.mem_append] at hy
          rcases hy with h | h
          · exact HNO.out y h
          · simp at h
            subst h
            intro e
            simp at e
            rcases he with he | ⟨_, he⟩
            · exact he e.1
            · exact he e.2)
        rcases he with h1 | ⟨h1, h2⟩
        all_goals
          go_wp2_with fail
          refine wp_region_held_drew (S := (fun W => W.cell? ⟨b0, o0 + j * 3, none⟩ = some (.int .i64 x1) ∧ W.cell? ⟨b0, o0 + j * 3 + 1, none⟩ = some (.int .i64 x2) ∧ W.cell? ⟨N, 0, none⟩ = some (.int .i64 d1) ∧ W.cell? ⟨N, 1, none⟩ = some (.int .i64 d2))) (by kernel_rfl) ?_ (fun hHeld => ?_)
          · (try dsimp only); exact ⟨HW.out.2.2.1, HW.out.2.2.2.1, by rw [HW.out.1.drew.cell]; rfl, by rw [HW.out.1.drew.cell]; rfl⟩
          refine wpAnyH_take (i := 0) (v := ?_) rfl (by kernel_rfl) (by kernel_rfl) (by kernel_rfl) (fun _ _ _ h => h) (Or.inl ⟨by rfl, ?_⟩) (by assumption) ?_
          rotate_left
          first | (focus ((intro w hSw; (try dsimp only at hSw); go_simp); (try with_reducible rfl); done)) | fail
          try simp only [Act.put, List.getElem_toArray, List.getElem_cons_zero, List.setIfInBounds_toArray, List.set_cons_zero, List.set_cons_succ]
          refine wpAnyH_take (i := 1) (v := ?_) rfl (by kernel_rfl) (by kernel_rfl) (by kernel_rfl) (fun _ _ _ h => h) (Or.inl ⟨by rfl, ?_⟩) (by assumption) ?_
          rotate_left
          first | (focus ((intro w hSw; (try dsimp only at hSw); go_simp); (try with_reducible rfl); done)) | fail
          try simp only [Act.put, List.getElem_toArray, List.getElem_cons_zero, List.getElem_cons_succ, List.setIfInBounds_toArray, List.set_cons_zero, List.set_cons_succ]
          refine wpAnyH_take (i := 2) (v := ?_) rfl (by kernel_rfl) (by kernel_rfl) (by kernel_rfl) (fun _ _ _ h => h) (Or.inl ⟨by rfl, ?_⟩) (by assumption) ?_
          rotate_left
          first | (focus ((intro w hSw; (try dsimp only at hSw); go_simp); (try with_reducible rfl); done)) | fail
          try simp only [Act.put, List.getElem_toArray, List.getElem_cons_zero, List.getElem_cons_succ, List.setIfInBounds_toArray, List.set_cons_zero, List.set_cons_succ]
          refine wpAnyH_take (i := 3) (v := ?_) rfl (by kernel_rfl) (by kernel_rfl) (by kernel_rfl) (fun _ _ _ h => h) (Or.inl ⟨by rfl, ?_⟩) (by assumption) ?_
          rotate_left
          first | (focus ((intro w hSw; (try dsimp only at hSw); go_simp); (try with_reducible rfl); done)) | fail
          try simp only [Act.put, List.getElem_toArray, List.getElem_cons_zero, List.getElem_cons_succ, List.setIfInBounds_toArray, List.set_cons_zero, List.set_cons_succ]
          refine wpAnyH_take (i := 4) (v := ?_) rfl (by kernel_rfl) (by kernel_rfl) (by kernel_rfl) (fun _ _ _ h => h) (Or.inl ⟨by rfl, ?_⟩) (by assumption) ?_
          rotate_left
          first | (focus ((intro w hSw; (try dsimp only at hSw); go_simp); (try with_reducible rfl); done)) | fail
          try simp only [Act.put, List.getElem_toArray, List.getElem_cons_zero, List.getElem_cons_succ, List.setIfInBounds_toArray, List.set_cons_zero, List.set_cons_succ]
          refine wpAnyH_take (i := 5) (v := ?_) rfl (by kernel_rfl) (by kernel_rfl) (by kernel_rfl) (fun _ _ _ h => h) (Or.inl ⟨by rfl, ?_⟩) (by assumption) ?_
          rotate_left
          first | (focus ((intro w hSw; (try dsimp only at hSw); go_simp); (try with_reducible rfl); done)) | fail
          try simp only [Act.put, List.getElem_toArray, List.getElem_cons_zero, List.getElem_cons_succ, List.setIfInBounds_toArray, List.set_cons_zero, List.set_cons_succ]
          refine wpAnyH_take (i := 6) (v := ?_) rfl (by kernel_rfl) (by kernel_rfl) (by kernel_rfl) (fun _ _ _ h => h) (Or.inl ⟨by rfl, ?_⟩) (by assumption) ?_
          rotate_left
          first | (focus ((intro w hSw; (try dsimp only at hSw); go_simp); (try with_reducible rfl); done)) | fail
          try simp only [Act.put, List.getElem_toArray, List.getElem_cons_zero, List.getElem_cons_succ, List.setIfInBounds_toArray, List.set_cons_zero, List.set_cons_succ]
          refine wpAnyH_done (by kernel_rfl) ?_ _
          go_wp2
          go_roundw
          case rel => exact ⟨j + 1, by omega, by go_num, hno2.out, HW.out.1.drew, HW.out.2.1.drew⟩
          case measure => simp [intOf]; omega
    · have hj' : j = n := by omega
      subst hj'
      have hin := Lib.hid (show mget L (d1, d2) = 0 from mget_no (by
        have := HNO.out
        rwa [List.take_of_length_le (by have := HL.out; omega)] at this))
      have HB := Lib.hid hb
      clear hW hb
      go_wp2
      go_ret
      exact ⟨ret_int hin.out.symm, HB.out⟩
end Go.Proofs.Ytailbppddnegoaa
/- Layer 17, the document's marks: Set. -/
namespace Go.Proofs.Ytailbppddnegoaa
open Go.RowKit
set_option linter.unusedVariables false
set_option maxRecDepth 100000
attribute [local go_sem ↓] Go.wp_at_zero Go.wp_at_succ

theorem ahead_aLt (a b : Ac) : aheadB a.1 a.2 b.1 b.2 = aLt a b := by
  rw [Bool.eq_iff_iff]
  unfold aheadB aLt
  split <;> (simp only [decide_eq_true_eq]; omega)
theorem own_eM (w : World) (e : TypeId) (base : Nat) (h : base ≤ w.heap.size) : Own (w.alloc (.cells #[] e)) base e 3 (some ⟨w.heap.size, 0, none⟩) 0 0 [] :=
  ⟨⟨rfl, .inr ⟨w.heap.size, 0, #[], rfl, h, heap_alloc_new w _, Nat.le_refl _, by simp [maxLen], by simp, by simp⟩⟩, Nat.le_refl _, by simp [maxLen]⟩
theorem setL_cons (x : Dt) (r : List Dt) (a : Ac) (n : Int) (i : Bool) : setL (x :: r) a n i = (if !i && !aLt x.1 a then [(a, n)] else []) ++ (if x.1 ≠ a then [x] else []) ++ setL r a n (i || !aLt x.1 a) := rfl
theorem setL_lenT (L : List Dt) (a : Ac) (n : Int) : (setL L a n true).length ≤ L.length := by
  rw [setL_true]; exact List.length_filter_le _ _
theorem setL_len (L : List Dt) (a : Ac) (n : Int) : (setL L a n false).length ≤ L.length + 1 := by
  induction L with
  | nil => unfold setL; simp
  | cons x r ih =>
    have h1 := setL_lenT r a n
    unfold setL
    cases hx : aLt x.1 a
    · by_cases he : x.1 = a <;> simp [he] <;> omega
    · by_cases he : x.1 = a <;> simp [he] <;> omega
/-- A slice of marks that the call has made. -/
def NewMs (w : World) (L : List Dt) (e : Ending) (w' : World) : Prop := ∃ A c, e = .returned (.slice A L.length c) ∧ Own w' w.heap.size 33 3 A L.length c (dts L) ∧ Below w.heap.size w w'
/-- What the loop has. -/
def SetI (w wr : World) (N : Nat) (d1 d2 : Int) (A3 : Option Addr) (c3 : Nat) (S : List Dt) : Prop :=
  Own wr (N + 1) 33 3 A3 S.length c3 (dts S) ∧ Whole wr N 25 #[.int .i64 d1, .int .i64 d2] ∧ Below N w wr
theorem SetI.up {w wr w' : World} {N : Nat} {d1 d2 : Int} {A3 : Option Addr} {c3 : Nat} {S : List Dt} (h : SetI w wr N d1 d2 A3 c3 S) (b : Below wr.heap.size wr w') : SetI w w' N d1 d2 A3 c3 S :=
  ⟨h.1.below b (Nat.le_refl _), h.2.1.below b h.2.1.lt, h.2.2.trans (below_of_le b (Nat.le_of_lt h.2.1.lt))⟩
theorem SetI.app {w wr : World} {N : Nat} {d1 d2 : Int} {A3 : Option Addr} {c3 : Nat} {S : List Dt} (h : SetI w wr N d1 d2 A3 c3 S) (x : Dt) (hl : S.length ≤ 3000000000) :
    ∃ A2 c2 w', (Builtin.append_ #[22, 22] 22 #[.slice A3 S.length c3, .slice (some ⟨wr.heap.size, 0, none⟩) 1 1]).run Try.prog (wr.alloc (.cells #[.int .i64 x.1.1, .int .i64 x.1.2, .int .i64 x.2] 33)) = .ok (.slice A2 (S.length + 1) c2) w' ∧ SetI w w' N d1 d2 A2 c2 (S ++ [x]) := by
  have hlt := h.2.1.lt
  obtain ⟨A2, c2, w', q, o, ch, b⟩ := app1 wr (N + 1) A3 S.length c3 S rfl h.1 x hl (by omega)
  refine ⟨A2, c2, w', q, by simpa using o, h.2.1.ch ch (fun e => ?_), h.2.2.trans (below_of_le b (by omega))⟩
  have := h.1.bl_lo N e.symm
  omega
set_option maxHeartbeats 2000000 in
theorem rset17_any (w : World) (B : Nat) (A : Option Addr) (c : Nat) (L : List Dt) (a : Ac) (n : Int) (hr : Ds w B A L) (hB : B ≤ w.heap.size) (hn : L.length ≤ 100000000) :
    Calls Try.prog 83 #[.slice A L.length c, acV a, .int .i64 n] w (NewMs w (setL L a n false)) := by
  generalize hlen : L.length = m at *
  have HL := Lib.hid hlen
  have HR := Lib.hid hr
  have CL := Lib.hid (fun d i d' i' W => rahead_any d i d' i' W)
  clear hlen hr
  obtain ⟨d1, d2⟩ := a
  have e0 : SetI w ((w.alloc (.cells #[.int .i64 d1, .int .i64 d2] 25)).alloc (.cells #[] 33)) w.heap.size d1 d2 (some ⟨w.heap.size + 1, 0, none⟩) 0 [] := by
    refine ⟨?_, (Whole.new w 25 #[.int .i64 d1, .int .i64 d2]).alloc _, ((Below.refl _ _).alloc (Nat.le_refl _) _).alloc (by simp) _⟩
    have := own_eM (w.alloc (.cells #[.int .i64 d1, .int .i64 d2] 25)) 33 (w.heap.size + 1) (by simp)
    simpa [dts] using this
  have E0 := Lib.hid e0
  clear e0
  generalize hN : w.heap.size = N at *
  unfold acV
  unfold actV at CL
  go_enter Try.func83, Try.ntmps83
  go_wp2_with fail
  generalize ((w.alloc (.cells #[.int .i64 d1, .int .i64 d2] 25)).alloc (.cells #[] 33)) = W0 at *
  go_loopw [7, 8, 9] (fun y f i wr => ∃ (j : Nat) (S : List Dt) (A3 : Option Addr) (c3 : Nat) (fb : Bool), j ≤ m ∧ i = .int .i64 j ∧ y = .slice A3 S.length c3 ∧ f = .bool fb ∧ S.length ≤ 2 * j ∧ setL L (d1, d2) n false = S ++ setL (L.drop j) (d1, d2) n fb ∧ SetI w wr N d1 d2 A3 c3 S) (fun _ _ i _ => m - (intOf i).toNat)
  case atStart => exact ⟨0, [], some ⟨N + 1, 0, none⟩, 0, false, by omega, rfl, rfl, rfl, by simp, rfl, E0.out⟩
  case round =>
    obtain ⟨j, S, A3, c3, fb, hj, rfl, rfl, rfl, hSj, hS, hI⟩ := hrel
    clear E0
    have HS := Lib.hid hS
    have HI := Lib.hid hI
    clear hS hI
    by_cases hlt : j < m
    · obtain ⟨x, hx⟩ : ∃ x, L[j]? = some x := ⟨L[j]'(by have := HL.out; omega), List.getElem?_eq_getElem _⟩
      obtain ⟨b0, o0, hA, hb0, c0, c1, c2⟩ := (HR.out.below (HI.out.2.2.mono hB)).at_ hx
      have hdr := Lib.hid (show L.drop j = x :: L.drop (j + 1) by
        obtain ⟨hi, he⟩ := List.getElem?_eq_some_iff.1 hx
        rw [List.drop_eq_getElem_cons hi, he])
      obtain ⟨⟨x1, x2⟩, x3⟩ := x
      simp only at c0 c1 c2
      have hal : aheadB x1 x2 d1 d2 = aLt (x1, x2) (d1, d2) := ahead_aLt (x1, x2) (d1, d2)
      have CA := Lib.hid (fun W => CL.out x1 x2 d1 d2 W)
      rw [hal] at CA
      have hNr : N < wr.heap.size := HI.out.2.1.lt
      have k0 : wr.cell? ⟨N, 0, none⟩ = some (.int .i64 d1) := by rw [HI.out.2.1.cell]; rfl
      have k1 : wr.cell? ⟨N, 1, none⟩ = some (.int .i64 d2) := by rw [HI.out.2.1.cell]; rfl
      have HX := Lib.hid (And.intro hx (And.intro c0 (And.intro c1 (And.intro c2 (And.intro k0 k1)))))
      clear hx c0 c1 c2 k0 k1 hal
      subst hA
      generalize hq : aLt (x1, x2) (d1, d2) = lt at *
      have HQ := Lib.hid hq
      clear hq
      go_upto_region 6 with fail
      go_cut [28] from 17 to 28 (fun cb wx => cb = .bool (!fb && !lt) ∧ Below wr.heap.size wr wx)
      case first =>
        cases fb
        · skip
          refine wp_region_held_drew (S := (fun W => W.cell? ⟨b0, o0 + j * 3, none⟩ = some (.int .i64 x1) ∧ W.cell? ⟨b0, o0 + j * 3 + 1, none⟩ = some (.int .i64 x2) ∧ W.cell? ⟨N, 0, none⟩ = some (.int .i64 d1) ∧ W.cell? ⟨N, 1, none⟩ = some (.int .i64 d2))) (by kernel_rfl) ?_ (fun hHeld => ?_)
          · (try dsimp only); exact ⟨HX.out.2.1, HX.out.2.2.1, HX.out.2.2.2.2.1, HX.out.2.2.2.2.2⟩
          refine wpAnyH_take (i := 0) (v := ?_) rfl (by kernel_rfl) (by kernel_rfl) (by kernel_rfl) (fun _ _ _ h => h) (Or.inl ⟨by rfl, ?_⟩) (by assumption) ?_
          rotate_left
          first | (focus ((intro w hSw; (try dsimp only at hSw); go_simp); (try with_reducible rfl); done)) | fail
          try simp only [Act.put, List.getElem_toArray, List.getElem_cons_zero, List.setIfInBounds_toArray, List.set_cons_zero, List.set_cons_succ]
          refine wpAnyH_take (i := 1) (v := ?_) rfl (by kernel_rfl) (by kernel_rfl) (by kernel_rfl) (fun _ _ _ h => h) (Or.inl ⟨by rfl, ?_⟩) (by assumption) ?_
          rotate_left
          first | (focus ((intro w hSw; (try dsimp only at hSw); go_simp); (try with_reducible rfl); done)) | fail
          try simp only [Act.put, List.getElem_toArray, List.getElem_cons_zero, List.getElem_cons_succ, List.setIfInBounds_toArray, List.set_cons_zero, List.set_cons_succ]
          refine wpAnyH_take (i := 2) (v := ?_) rfl (by kernel_rfl) (by kernel_rfl) (by kernel_rfl) (fun _ _ _ h => h) (Or.inl ⟨by rfl, ?_⟩) (by assumption) ?_
          rotate_left
          first | (focus ((intro w hSw; (try dsimp only at hSw); go_simp); (try with_reducible rfl); done)) | fail
          try simp only [Act.put, List.getElem_toArray, List.getElem_cons_zero, List.getElem_cons_succ, List.setIfInBounds_toArray, List.set_cons_zero, List.set_cons_succ]
          refine wpAnyH_take (i := 3) (v := ?_) rfl (by kernel_rfl) (by kernel_rfl) (by kernel_rfl) (fun _ _ _ h => h) (Or.inl ⟨by rfl, ?_⟩) (by assumption) ?_
          rotate_left
          first | (focus ((intro w hSw; (try dsimp only at hSw); go_simp); (try with_reducible rfl); done)) | fail
          try simp only [Act.put, List.getElem_toArray, List.getElem_cons_zero, List.getElem_cons_succ, List.setIfInBounds_toArray, List.set_cons_zero, List.set_cons_succ]
          refine wpAnyH_take (i := 4) (v := ?_) rfl (by kernel_rfl) (by kernel_rfl) (by kernel_rfl) (fun _ _ _ h => h) (Or.inl ⟨by rfl, ?_⟩) (by assumption) ?_
          rotate_left
          first | (focus ((intro w hSw; (try dsimp only at hSw); go_simp); (try with_reducible rfl); done)) | fail
          try simp only [Act.put, List.getElem_toArray, List.getElem_cons_zero, List.getElem_cons_succ, List.setIfInBounds_toArray, List.set_cons_zero, List.set_cons_succ]
          refine wpAnyH_take (i := 5) (v := ?_) rfl (by kernel_rfl) (by kernel_rfl) (by kernel_rfl) (fun _ _ _ h => h) (Or.inl ⟨by rfl, ?_⟩) (by assumption) ?_
          rotate_left
          first | (focus ((intro w hSw; (try dsimp only at hSw); go_simp); (try with_reducible rfl); done)) | fail
          try simp only [Act.put, List.getElem_toArray, List.getElem_cons_zero, List.getElem_cons_succ, List.setIfInBounds_toArray, List.set_cons_zero, List.set_cons_succ]
          refine wpAnyH_take (i := 6) (v := ?_) rfl (by kernel_rfl) (by kernel_rfl) (by kernel_rfl) (fun _ _ _ h => h) (Or.inl ⟨by rfl, ?_⟩) (by assumption) ?_
          rotate_left
          first | (focus ((intro w hSw; (try dsimp only at hSw); go_simp); (try with_reducible rfl); done)) | fail
          try simp only [Act.put, List.getElem_toArray, List.getElem_cons_zero, List.getElem_cons_succ, List.setIfInBounds_toArray, List.set_cons_zero, List.set_cons_succ]
          refine wpAnyH_take (i := 7) (v := ?_) rfl (by kernel_rfl) (by kernel_rfl) (by kernel_rfl) (fun _ _ _ h => h) (Or.inl ⟨by rfl, ?_⟩) (by assumption) ?_
          rotate_left
          first | (focus ((intro w hSw; (try dsimp only at hSw); go_simp); (try with_reducible rfl); done)) | fail
          try simp only [Act.put, List.getElem_toArray, List.getElem_cons_zero, List.getElem_cons_succ, List.setIfInBounds_toArray, List.set_cons_zero, List.set_cons_succ]
          refine wpAnyH_take (i := 8) (v := ?_) rfl (by kernel_rfl) (by kernel_rfl) (by kernel_rfl) (fun _ _ _ h => h) (Or.inl ⟨by rfl, ?_⟩) (by assumption) ?_
          rotate_left
          first | (focus ((intro w hSw; (try dsimp only at hSw); go_simp); (try with_reducible rfl); done)) | fail
          try simp only [Act.put, List.getElem_toArray, List.getElem_cons_zero, List.getElem_cons_succ, List.setIfInBounds_toArray, List.set_cons_zero, List.set_cons_succ]
          refine wpAnyH_ready (rs := [9]) (by kernel_rfl) (by simp) ?_
          refine AllReadyH.cons rfl (fun K hK => ?_) AllReadyH.nil
          go_simp
          refine (CA.out _).mono ?_; rintro e w5 ⟨rfl, b5⟩
          go_wp2_with fail
          refine hK.out _ _ ?_ (fun hHeld => ?_)
          · (try dsimp only); exact ⟨(b5.cell (by show b0 < wr.heap.size; have := HI.out.2.2.size; omega)).trans hHeld.1, (b5.cell (by show b0 < wr.heap.size; have := HI.out.2.2.size; omega)).trans hHeld.2.1, (b5.cell (by show N < wr.heap.size; omega)).trans hHeld.2.2.1, (b5.cell (by show N < wr.heap.size; omega)).trans hHeld.2.2.2⟩
          clear hK K
          try simp only [Act.put, List.getElem_toArray, List.getElem_cons_zero, List.getElem_cons_succ, List.setIfInBounds_toArray, List.set_cons_zero, List.set_cons_succ]
          refine wpAnyH_take (i := 10) (v := ?_) rfl (by kernel_rfl) (by kernel_rfl) (by kernel_rfl) (fun _ _ _ h => h) (Or.inl ⟨by rfl, ?_⟩) (by assumption) ?_
          rotate_left
          first | (focus ((intro w hSw; (try dsimp only at hSw); go_simp); (try with_reducible rfl); done)) | fail
          try simp only [Act.put, List.getElem_toArray, List.getElem_cons_zero, List.getElem_cons_succ, List.setIfInBounds_toArray, List.set_cons_zero, List.set_cons_succ]
          refine wpAnyH_take (i := 11) (v := ?_) rfl (by kernel_rfl) (by kernel_rfl) (by kernel_rfl) (fun _ _ _ h => h) (Or.inl ⟨by rfl, ?_⟩) (by assumption) ?_
          rotate_left
          first | (focus ((intro w hSw; (try dsimp only at hSw); go_simp); (try with_reducible rfl); done)) | fail
          try simp only [Act.put, List.getElem_toArray, List.getElem_cons_zero, List.getElem_cons_succ, List.setIfInBounds_toArray, List.set_cons_zero, List.set_cons_succ]
          refine wpAnyH_done (by kernel_rfl) ?_ _
          go_wp2
          go_meet
          exact ⟨rfl, Below.trans (Below.drew (Below.refl _ _)) b5⟩
        · skip
          refine wp_region_held_drew (S := (fun _ => True)) (by kernel_rfl) ?_ (fun hHeld => ?_)
          · (try dsimp only); try trivial
          refine wpAnyH_take (i := 0) (v := ?_) rfl (by kernel_rfl) (by kernel_rfl) (by kernel_rfl) (fun _ _ _ h => h) (Or.inl ⟨by rfl, ?_⟩) (by assumption) ?_
          rotate_left
          first | (focus ((intro w hSw; (try dsimp only at hSw); go_simp); (try with_reducible rfl); done)) | fail
          try simp only [Act.put, List.getElem_toArray, List.getElem_cons_zero, List.setIfInBounds_toArray, List.set_cons_zero, List.set_cons_succ]
          refine wpAnyH_take (i := 1) (v := ?_) rfl (by kernel_rfl) (by kernel_rfl) (by kernel_rfl) (fun _ _ _ h => h) (Or.inl ⟨by rfl, ?_⟩) (by assumption) ?_
          rotate_left
          first | (focus ((intro w hSw; (try dsimp only at hSw); go_simp); (try with_reducible rfl); done)) | fail
          try simp only [Act.put, List.getElem_toArray, List.getElem_cons_zero, List.getElem_cons_succ, List.setIfInBounds_toArray, List.set_cons_zero, List.set_cons_succ]
          refine wpAnyH_take (i := 2) (v := ?_) rfl (by kernel_rfl) (by kernel_rfl) (by kernel_rfl) (fun _ _ _ h => h) (Or.inl ⟨by rfl, ?_⟩) (by assumption) ?_
          rotate_left
          first | (focus ((intro w hSw; (try dsimp only at hSw); go_simp); (try with_reducible rfl); done)) | fail
          try simp only [Act.put, List.getElem_toArray, List.getElem_cons_zero, List.getElem_cons_succ, List.setIfInBounds_toArray, List.set_cons_zero, List.set_cons_succ]
          refine wpAnyH_take (i := 3) (v := undef) rfl (by kernel_rfl) (by kernel_rfl) (by kernel_rfl) (fun _ _ _ h => h) (Or.inr ⟨by rfl, rfl⟩) (by assumption) ?_
          try simp only [Act.put, List.getElem_toArray, List.getElem_cons_zero, List.getElem_cons_succ, List.setIfInBounds_toArray, List.set_cons_zero, List.set_cons_succ]
          refine wpAnyH_take (i := 4) (v := undef) rfl (by kernel_rfl) (by kernel_rfl) (by kernel_rfl) (fun _ _ _ h => h) (Or.inr ⟨by rfl, rfl⟩) (by assumption) ?_
          try simp only [Act.put, List.getElem_toArray, List.getElem_cons_zero, List.getElem_cons_succ, List.setIfInBounds_toArray, List.set_cons_zero, List.set_cons_succ]
          refine wpAnyH_take (i := 5) (v := undef) rfl (by kernel_rfl) (by kernel_rfl) (by kernel_rfl) (fun _ _ _ h => h) (Or.inr ⟨by rfl, rfl⟩) (by assumption) ?_
          try simp only [Act.put, List.getElem_toArray, List.getElem_cons_zero, List.getElem_cons_succ, List.setIfInBounds_toArray, List.set_cons_zero, List.set_cons_succ]
          refine wpAnyH_take (i := 6) (v := undef) rfl (by kernel_rfl) (by kernel_rfl) (by kernel_rfl) (fun _ _ _ h => h) (Or.inr ⟨by rfl, rfl⟩) (by assumption) ?_
          try simp only [Act.put, List.getElem_toArray, List.getElem_cons_zero, List.getElem_cons_succ, List.setIfInBounds_toArray, List.set_cons_zero, List.set_cons_succ]
          refine wpAnyH_take (i := 7) (v := undef) rfl (by kernel_rfl) (by kernel_rfl) (by kernel_rfl) (fun _ _ _ h => h) (Or.inr ⟨by rfl, rfl⟩) (by assumption) ?_
          try simp only [Act.put, List.getElem_toArray, List.getElem_cons_zero, List.getElem_cons_succ, List.setIfInBounds_toArray, List.set_cons_zero, List.set_cons_succ]
          refine wpAnyH_take (i := 8) (v := undef) rfl (by kernel_rfl) (by kernel_rfl) (by kernel_rfl) (fun _ _ _ h => h) (Or.inr ⟨by rfl, rfl⟩) (by assumption) ?_
          try simp only [Act.put, List.getElem_toArray, List.getElem_cons_zero, List.getElem_cons_succ, List.setIfInBounds_toArray, List.set_cons_zero, List.set_cons_succ]
          refine wpAnyH_take (i := 9) (v := undef) rfl (by kernel_rfl) (by kernel_rfl) (by kernel_rfl) (fun _ _ _ h => h) (Or.inr ⟨by rfl, rfl⟩) (by assumption) ?_
          try simp only [Act.put, List.getElem_toArray, List.getElem_cons_zero, List.getElem_cons_succ, List.setIfInBounds_toArray, List.set_cons_zero, List.set_cons_succ]
          refine wpAnyH_take (i := 10) (v := undef) rfl (by kernel_rfl) (by kernel_rfl) (by kernel_rfl) (fun _ _ _ h => h) (Or.inr ⟨by rfl, rfl⟩) (by assumption) ?_
          try simp only [Act.put, List.getElem_toArray, List.getElem_cons_zero, List.getElem_cons_succ, List.setIfInBounds_toArray, List.set_cons_zero, List.set_cons_succ]
          refine wpAnyH_take (i := 11) (v := ?_) rfl (by kernel_rfl) (by kernel_rfl) (by kernel_rfl) (fun _ _ _ h => h) (Or.inl ⟨by rfl, ?_⟩) (by assumption) ?_
          rotate_left
          first | (focus ((intro w hSw; (try dsimp only at hSw); go_simp); (try with_reducible rfl); done)) | fail
          try simp only [Act.put, List.getElem_toArray, List.getElem_cons_zero, List.getElem_cons_succ, List.setIfInBounds_toArray, List.set_cons_zero, List.set_cons_succ]
          refine wpAnyH_done (by kernel_rfl) ?_ _
          go_wp2
          go_meet
          exact ⟨rfl, (Below.refl _ _).drew⟩
      case rest =>
        obtain ⟨rfl, hbc⟩ := hcut
        generalize hc : (!fb && !lt) = cb at *
        have HB := Lib.hid (And.intro hbc hc)
        clear hbc hc
        have hI1 := Lib.hid (HI.out.up HB.out.1)
        have hsz := HB.out.1.size
        go_upto_if 28 with fail
        go_cut [7, 8] from 29 to 34 (fun y f wx => ∃ (A4 : Option Addr) (c4 : Nat), y = .slice A4 (S ++ (if cb then [((d1, d2), n)] else [])).length c4 ∧ f = .bool (fb || !lt) ∧ SetI w wx N d1 d2 A4 c4 (S ++ (if cb then [((d1, d2), n)] else [])))
        case first =>
          cases cb
          · have hf := Lib.hid (show fb = (fb || !lt) by have := HB.out.2; revert this; cases fb <;> cases lt <;> simp)
            go_wp2
            go_meet
            refine ⟨A3, c3, by simp, congrArg Value.bool hf.out, by simpa using hI1.out⟩
          · have hf := Lib.hid (show true = (fb || !lt) by have := HB.out.2; revert this; cases fb <;> cases lt <;> simp)
            obtain ⟨A4, c4, w4, q4, h4⟩ := hI1.out.app ((d1, d2), n) (by omega)
            have H4 := Lib.hid h4
            have Q4 := Lib.hid q4
            have k0 : wc.cell? ⟨N, 0, none⟩ = some (.int .i64 d1) := by rw [hI1.out.2.1.cell]; rfl
            have k1 : wc.cell? ⟨N, 1, none⟩ = some (.int .i64 d2) := by rw [hI1.out.2.1.cell]; rfl
            clear h4 q4
            go_wp2_with (at_builtin; refine wpList_want (by rfl) (fun K hK => wp_append_runs _ _ _ _ _ rfl _ _ rfl rfl _ _ Q4.out (hK _ _ ?_)))
            go_wp2
            go_meet
            exact ⟨A4, c4, by simp, congrArg Value.bool hf.out, by simpa using H4.out⟩
        case rest =>
          obtain ⟨A4, c4, rfl, rfl, hI2⟩ := hcut
          have hl1 : (S ++ (if cb then [((d1, d2), n)] else [])).length ≤ 2 * j + 1 := by cases cb <;> simp <;> omega
          have hs1 := Lib.hid (show setL L (d1, d2) n false = (S ++ (if cb then [((d1, d2), n)] else [])) ++ ((if (x1, x2) ≠ (d1, d2) then [((x1, x2), x3)] else []) ++ setL (L.drop (j + 1)) (d1, d2) n (fb || !lt)) by
            rw [HS.out, hdr.out, setL_cons]
            simp only [HQ.out, HB.out.2, List.append_assoc])
          generalize (S ++ (if cb then [((d1, d2), n)] else [])) = S1 at *
          have HI2 := Lib.hid hI2
          obtain ⟨b1, o1, hA1, hb1, c0, c1, c2⟩ := (HR.out.below (hI2.2.2.mono hB)).at_ HX.out.1
          simp only at c0 c1 c2
          cases hA1
          have k0 : wc.cell? ⟨N, 0, none⟩ = some (.int .i64 d1) := by rw [hI2.2.1.cell]; rfl
          have k1 : wc.cell? ⟨N, 1, none⟩ = some (.int .i64 d2) := by rw [hI2.2.1.cell]; rfl
          have HC := Lib.hid (And.intro c0 (And.intro c1 (And.intro c2 (And.intro k0 k1))))
          clear hI2 c0 c1 c2 k0 k1 HI hI1 HS
          rcases two2 x1 x2 d1 d2 with ⟨rfl, rfl⟩ | he
          · have hs2 := Lib.hid (show setL L (x1, x2) n false = S1 ++ setL (L.drop (j + 1)) (x1, x2) n (fb || !lt) by rw [hs1.out]; simp)
            go_wp2_with fail
            refine wp_region_held_drew (S := (fun W => W.cell? ⟨b0, o0 + j * 3, none⟩ = some (.int .i64 x1) ∧ W.cell? ⟨b0, o0 + j * 3 + 1, none⟩ = some (.int .i64 x2) ∧ W.cell? ⟨N, 0, none⟩ = some (.int .i64 x1) ∧ W.cell? ⟨N, 1, none⟩ = some (.int .i64 x2))) (by kernel_rfl) ?_ (fun hHeld => ?_)
            · (try dsimp only); exact ⟨HC.out.1, HC.out.2.1, HC.out.2.2.2.1, HC.out.2.2.2.2⟩
            refine wpAnyH_take (i := 0) (v := ?_) rfl (by kernel_rfl) (by kernel_rfl) (by kernel_rfl) (fun _ _ _ h => h) (Or.inl ⟨by rfl, ?_⟩) (by assumption) ?_
            rotate_left
            first | (focus ((intro w hSw; (try dsimp only at hSw); go_simp); (try with_reducible rfl); done)) | fail
            try simp only [Act.put, List.getElem_toArray, List.getElem_cons_zero, List.setIfInBounds_toArray, List.set_cons_zero, List.set_cons_succ]
            refine wpAnyH_take (i := 1) (v := ?_) rfl (by kernel_rfl) (by kernel_rfl) (by kernel_rfl) (fun _ _ _ h => h) (Or.inl ⟨by rfl, ?_⟩) (by assumption) ?_
            rotate_left
            first | (focus ((intro w hSw; (try dsimp only at hSw); go_simp); (try with_reducible rfl); done)) | fail
            try simp only [Act.put, List.getElem_toArray, List.getElem_cons_zero, List.getElem_cons_succ, List.setIfInBounds_toArray, List.set_cons_zero, List.set_cons_succ]
            refine wpAnyH_take (i := 2) (v := ?_) rfl (by kernel_rfl) (by kernel_rfl) (by kernel_rfl) (fun _ _ _ h => h) (Or.inl ⟨by rfl, ?_⟩) (by assumption) ?_
            rotate_left
            first | (focus ((intro w hSw; (try dsimp only at hSw); go_simp); (try with_reducible rfl); done)) | fail
            try simp only [Act.put, List.getElem_toArray, List.getElem_cons_zero, List.getElem_cons_succ, List.setIfInBounds_toArray, List.set_cons_zero, List.set_cons_succ]
            refine wpAnyH_take (i := 3) (v := ?_) rfl (by kernel_rfl) (by kernel_rfl) (by kernel_rfl) (fun _ _ _ h => h) (Or.inl ⟨by rfl, ?_⟩) (by assumption) ?_
            rotate_left
            first | (focus ((intro w hSw; (try dsimp only at hSw); go_simp); (try with_reducible rfl); done)) | fail
            try simp only [Act.put, List.getElem_toArray, List.getElem_cons_zero, List.getElem_cons_succ, List.setIfInBounds_toArray, List.set_cons_zero, List.set_cons_succ]
            refine wpAnyH_take (i := 4) (v := ?_) rfl (by kernel_rfl) (by kernel_rfl) (by kernel_rfl) (fun _ _ _ h => h) (Or.inl ⟨by rfl, ?_⟩) (by assumption) ?_
            rotate_left
            first | (focus ((intro w hSw; (try dsimp only at hSw); go_simp); (try with_reducible rfl); done)) | fail
            try simp only [Act.put, List.getElem_toArray, List.getElem_cons_zero, List.getElem_cons_succ, List.setIfInBounds_toArray, List.set_cons_zero, List.set_cons_succ]
            refine wpAnyH_take (i := 5) (v := ?_) rfl (by kernel_rfl) (by kernel_rfl) (by kernel_rfl) (fun _ _ _ h => h) (Or.inl ⟨by rfl, ?_⟩) (by assumption) ?_
            rotate_left
            first | (focus ((intro w hSw; (try dsimp only at hSw); go_simp); (try with_reducible rfl); done)) | fail
            try simp only [Act.put, List.getElem_toArray, List.getElem_cons_zero, List.getElem_cons_succ, List.setIfInBounds_toArray, List.set_cons_zero, List.set_cons_succ]
            refine wpAnyH_take (i := 6) (v := ?_) rfl (by kernel_rfl) (by kernel_rfl) (by kernel_rfl) (fun _ _ _ h => h) (Or.inl ⟨by rfl, ?_⟩) (by assumption) ?_
            rotate_left
            first | (focus ((intro w hSw; (try dsimp only at hSw); go_simp); (try with_reducible rfl); done)) | fail
            try simp only [Act.put, List.getElem_toArray, List.getElem_cons_zero, List.getElem_cons_succ, List.setIfInBounds_toArray, List.set_cons_zero, List.set_cons_succ]
            refine wpAnyH_done (by kernel_rfl) ?_ _
            go_wp2
            go_roundw
            case rel => exact ⟨j + 1, S1, A4, c4, _, by omega, by go_num, rfl, rfl, by omega, hs2.out, HI2.out.up (Below.drew (Below.refl _ _))⟩
            case measure => simp [intOf]; omega
          · have hne : (x1, x2) ≠ (d1, d2) := by
              intro e
              simp at e
              rcases he with he | ⟨_, he⟩
              · exact he e.1
              · exact he e.2
            have hs2 := Lib.hid (show setL L (d1, d2) n false = (S1 ++ [((x1, x2), x3)]) ++ setL (L.drop (j + 1)) (d1, d2) n (fb || !lt) by rw [hs1.out, if_pos hne]; simp)
            have h2 : SetI w wc.drew N d1 d2 A4 c4 S1 := HI2.out.up (Below.drew (Below.refl _ _))
            obtain ⟨A5, c5, w5, q5, h5⟩ := h2.app ((x1, x2), x3) (by omega)
            have H5 := Lib.hid h5
            have Q5 := Lib.hid q5
            have e0 : wc.drew.cell? ⟨b0, o0 + j * 3, none⟩ = some (.int .i64 x1) := HC.out.1
            have e1 : wc.drew.cell? ⟨b0, o0 + j * 3 + 1, none⟩ = some (.int .i64 x2) := HC.out.2.1
            have e2 : wc.drew.cell? ⟨b0, o0 + j * 3 + 2, none⟩ = some (.int .i64 x3) := HC.out.2.2.1
            clear h5 q5 h2 hne
            rcases he with h1 | ⟨rfl, h2⟩
            · skip
              go_wp2_with fail
              refine wp_region_held_drew (S := (fun W => W.cell? ⟨b0, o0 + j * 3, none⟩ = some (.int .i64 x1) ∧ W.cell? ⟨b0, o0 + j * 3 + 1, none⟩ = some (.int .i64 x2) ∧ W.cell? ⟨N, 0, none⟩ = some (.int .i64 d1) ∧ W.cell? ⟨N, 1, none⟩ = some (.int .i64 d2))) (by kernel_rfl) ?_ (fun hHeld => ?_)
              · (try dsimp only); exact ⟨HC.out.1, HC.out.2.1, HC.out.2.2.2.1, HC.out.2.2.2.2⟩
              refine wpAnyH_take (i := 0) (v := ?_) rfl (by kernel_rfl) (by kernel_rfl) (by kernel_rfl) (fun _ _ _ h => h) (Or.inl ⟨by rfl, ?_⟩) (by assumption) ?_
              rotate_left
              first | (focus ((intro w hSw; (try dsimp only at hSw); go_simp); (try with_reducible rfl); done)) | fail
              try simp only [Act.put, List.getElem_toArray, List.getElem_cons_zero, List.setIfInBounds_toArray, List.set_cons_zero, List.set_cons_succ]
              refine wpAnyH_take (i := 1) (v := ?_) rfl (by kernel_rfl) (by kernel_rfl) (by kernel_rfl) (fun _ _ _ h => h) (Or.inl ⟨by rfl, ?_⟩) (by assumption) ?_
              rotate_left
              first | (focus ((intro w hSw; (try dsimp only at hSw); go_simp); (try with_reducible rfl); done)) | fail
              try simp only [Act.put, List.getElem_toArray, List.getElem_cons_zero, List.getElem_cons_succ, List.setIfInBounds_toArray, List.set_cons_zero, List.set_cons_succ]
              refine wpAnyH_take (i := 2) (v := ?_) rfl (by kernel_rfl) (by kernel_rfl) (by kernel_rfl) (fun _ _ _ h => h) (Or.inl ⟨by rfl, ?_⟩) (by assumption) ?_
              rotate_left
              first | (focus ((intro w hSw; (try dsimp only at hSw); go_simp); (try with_reducible rfl); done)) | fail
              try simp only [Act.put, List.getElem_toArray, List.getElem_cons_zero, List.getElem_cons_succ, List.setIfInBounds_toArray, List.set_cons_zero, List.set_cons_succ]
              refine wpAnyH_take (i := 3) (v := ?_) rfl (by kernel_rfl) (by kernel_rfl) (by kernel_rfl) (fun _ _ _ h => h) (Or.inl ⟨by rfl, ?_⟩) (by assumption) ?_
              rotate_left
              first | (focus ((intro w hSw; (try dsimp only at hSw); go_simp); (try with_reducible rfl); done)) | fail
              try simp only [Act.put, List.getElem_toArray, List.getElem_cons_zero, List.getElem_cons_succ, List.setIfInBounds_toArray, List.set_cons_zero, List.set_cons_succ]
              refine wpAnyH_take (i := 4) (v := ?_) rfl (by kernel_rfl) (by kernel_rfl) (by kernel_rfl) (fun _ _ _ h => h) (Or.inl ⟨by rfl, ?_⟩) (by assumption) ?_
              rotate_left
              first | (focus ((intro w hSw; (try dsimp only at hSw); go_simp); (try with_reducible rfl); done)) | fail
              try simp only [Act.put, List.getElem_toArray, List.getElem_cons_zero, List.getElem_cons_succ, List.setIfInBounds_toArray, List.set_cons_zero, List.set_cons_succ]
              refine wpAnyH_take (i := 5) (v := ?_) rfl (by kernel_rfl) (by kernel_rfl) (by kernel_rfl) (fun _ _ _ h => h) (Or.inl ⟨by rfl, ?_⟩) (by assumption) ?_
              rotate_left
              first | (focus ((intro w hSw; (try dsimp only at hSw); go_simp); (try with_reducible rfl); done)) | fail
              try simp only [Act.put, List.getElem_toArray, List.getElem_cons_zero, List.getElem_cons_succ, List.setIfInBounds_toArray, List.set_cons_zero, List.set_cons_succ]
              refine wpAnyH_take (i := 6) (v := ?_) rfl (by kernel_rfl) (by kernel_rfl) (by kernel_rfl) (fun _ _ _ h => h) (Or.inl ⟨by rfl, ?_⟩) (by assumption) ?_
              rotate_left
              first | (focus ((intro w hSw; (try dsimp only at hSw); go_simp); (try with_reducible rfl); done)) | fail
              try simp only [Act.put, List.getElem_toArray, List.getElem_cons_zero, List.getElem_cons_succ, List.setIfInBounds_toArray, List.set_cons_zero, List.set_cons_succ]
              refine wpAnyH_done (by kernel_rfl) ?_ _
              go_wp2_with (at_builtin; refine wpList_want (by rfl) (fun K hK => wp_append_runs _ _ _ _ _ rfl _ _ rfl rfl _ _ Q5.out (hK _ _ ?_)))
              go_wp2
              go_roundw
              case rel => exact ⟨j + 1, S1 ++ [((x1, x2), x3)], A5, c5, _, by omega, by go_num, by simp, rfl, by simp; omega, hs2.out, H5.out⟩
              case measure => simp [intOf]; omega
            · skip
              go_wp2_with fail
              refine wp_region_held_drew (S := (fun W => W.cell? ⟨b0, o0 + j * 3, none⟩ = some (.int .i64 x1) ∧ W.cell? ⟨b0, o0 + j * 3 + 1, none⟩ = some (.int .i64 x2) ∧ W.cell? ⟨N, 0, none⟩ = some (.int .i64 x1) ∧ W.cell? ⟨N, 1, none⟩ = some (.int .i64 d2))) (by kernel_rfl) ?_ (fun hHeld => ?_)
              · (try dsimp only); exact ⟨HC.out.1, HC.out.2.1, HC.out.2.2.2.1, HC.out.2.2.2.2⟩
              refine wpAnyH_take (i := 0) (v := ?_) rfl (by kernel_rfl) (by kernel_rfl) (by kernel_rfl) (fun _ _ _ h => h) (Or.inl ⟨by rfl, ?_⟩) (by assumption) ?_
              rotate_left
              first | (focus ((intro w hSw; (try dsimp only at hSw); go_simp); (try with_reducible rfl); done)) | fail
              try simp only [Act.put, List.getElem_toArray, List.getElem_cons_zero, List.setIfInBounds_toArray, List.set_cons_zero, List.set_cons_succ]
              refine wpAnyH_take (i := 1) (v := ?_) rfl (by kernel_rfl) (by kernel_rfl) (by kernel_rfl) (fun _ _ _ h => h) (Or.inl ⟨by rfl, ?_⟩) (by assumption) ?_
              rotate_left
              first | (focus ((intro w hSw; (try dsimp only at hSw); go_simp); (try with_reducible rfl); done)) | fail
              try simp only [Act.put, List.getElem_toArray, List.getElem_cons_zero, List.getElem_cons_succ, List.setIfInBounds_toArray, List.set_cons_zero, List.set_cons_succ]
              refine wpAnyH_take (i := 2) (v := ?_) rfl (by kernel_rfl) (by kernel_rfl) (by kernel_rfl) (fun _ _ _ h => h) (Or.inl ⟨by rfl, ?_⟩) (by assumption) ?_
              rotate_left
              first | (focus ((intro w hSw; (try dsimp only at hSw); go_simp); (try with_reducible rfl); done)) | fail
              try simp only [Act.put, List.getElem_toArray, List.getElem_cons_zero, List.getElem_cons_succ, List.setIfInBounds_toArray, List.set_cons_zero, List.set_cons_succ]
              refine wpAnyH_take (i := 3) (v := ?_) rfl (by kernel_rfl) (by kernel_rfl) (by kernel_rfl) (fun _ _ _ h => h) (Or.inl ⟨by rfl, ?_⟩) (by assumption) ?_
              rotate_left
              first | (focus ((intro w hSw; (try dsimp only at hSw); go_simp); (try with_reducible rfl); done)) | fail
              try simp only [Act.put, List.getElem_toArray, List.getElem_cons_zero, List.getElem_cons_succ, List.setIfInBounds_toArray, List.set_cons_zero, List.set_cons_succ]
              refine wpAnyH_take (i := 4) (v := ?_) rfl (by kernel_rfl) (by kernel_rfl) (by kernel_rfl) (fun _ _ _ h => h) (Or.inl ⟨by rfl, ?_⟩) (by assumption) ?_
              rotate_left
              first | (focus ((intro w hSw; (try dsimp only at hSw); go_simp); (try with_reducible rfl); done)) | fail
              try simp only [Act.put, List.getElem_toArray, List.getElem_cons_zero, List.getElem_cons_succ, List.setIfInBounds_toArray, List.set_cons_zero, List.set_cons_succ]
              refine wpAnyH_take (i := 5) (v := ?_) rfl (by kernel_rfl) (by kernel_rfl) (by kernel_rfl) (fun _ _ _ h => h) (Or.inl ⟨by rfl, ?_⟩) (by assumption) ?_
              rotate_left
              first | (focus ((intro w hSw; (try dsimp only at hSw); go_simp); (try with_reducible rfl); done)) | fail
              try simp only [Act.put, List.getElem_toArray, List.getElem_cons_zero, List.getElem_cons_succ, List.setIfInBounds_toArray, List.set_cons_zero, List.set_cons_succ]
              refine wpAnyH_take (i := 6) (v := ?_) rfl (by kernel_rfl) (by kernel_rfl) (by kernel_rfl) (fun _ _ _ h => h) (Or.inl ⟨by rfl, ?_⟩) (by assumption) ?_
              rotate_left
              first | (focus ((intro w hSw; (try dsimp only at hSw); go_simp); (try with_reducible rfl); done)) | fail
              try simp only [Act.put, List.getElem_toArray, List.getElem_cons_zero, List.getElem_cons_succ, List.setIfInBounds_toArray, List.set_cons_zero, List.set_cons_succ]
              refine wpAnyH_done (by kernel_rfl) ?_ _
              go_wp2_with (at_builtin; refine wpList_want (by rfl) (fun K hK => wp_append_runs _ _ _ _ _ rfl _ _ rfl rfl _ _ Q5.out (hK _ _ ?_)))
              go_wp2
              go_roundw
              case rel => exact ⟨j + 1, S1 ++ [((x1, x2), x3)], A5, c5, _, by omega, by go_num, by simp, rfl, by simp; omega, hs2.out, H5.out⟩
              case measure => simp [intOf]; omega
    · have hj' : j = m := by omega
      subst hj'
      have hs1 := Lib.hid (show setL L (d1, d2) n false = S ++ (if fb then [] else [((d1, d2), n)]) by
        rw [HS.out, List.drop_eq_nil_of_le (by have := HL.out; omega)]
        rfl)
      cases fb
      · obtain ⟨A4, c4, w4, q4, h4⟩ := HI.out.app ((d1, d2), n) (by omega)
        have HE := Lib.hid (show NewMs w (setL L (d1, d2) n false) (.returned (.slice A4 (S.length + 1) c4)) w4 from ⟨A4, c4, by rw [hs1.out]; simp, by rw [hs1.out, hN]; simpa using h4.1.base_le (by omega), by rw [hN]; exact h4.2.2⟩)
        have Q4 := Lib.hid q4
        have k0 : wr.cell? ⟨N, 0, none⟩ = some (.int .i64 d1) := by rw [HI.out.2.1.cell]; rfl
        have k1 : wr.cell? ⟨N, 1, none⟩ = some (.int .i64 d2) := by rw [HI.out.2.1.cell]; rfl
        clear h4 q4
        go_wp2_with (at_builtin; refine wpList_want (by rfl) (fun K hK => wp_append_runs _ _ _ _ _ rfl _ _ rfl rfl _ _ Q4.out (hK _ _ ?_)))
        go_wp2
        go_ret
        exact HE.out
      · have HE := Lib.hid (show NewMs w (setL L (d1, d2) n false) (.returned (.slice A3 S.length c3)) wr from ⟨A3, c3, by rw [hs1.out]; simp, by rw [hs1.out, hN]; simpa using HI.out.1.base_le (by omega), by rw [hN]; exact HI.out.2.2⟩)
        go_wp2
        go_ret
        exact HE.out
end Go.Proofs.Ytailbppddnegoaa
/- Layer 17, the document's marks: Has, Raise, Take, Join, Meet, Covers. -/
namespace Go.Proofs.Ytailbppddnegoaa
open Go.RowKit
set_option linter.unusedVariables false
set_option maxRecDepth 100000
attribute [local go_sem ↓] Go.wp_at_zero Go.wp_at_succ

/-- A slice of marks, whosever. -/
def MsAt (w : World) (A : Option Addr) (L : List Dt) : Prop := Ds w w.heap.size A L
theorem MsAt.up {w w' : World} {A : Option Addr} {L : List Dt} (h : MsAt w A L) (b : Below w.heap.size w w') : MsAt w' A L := (Ds.below h b).more b.size
theorem MsAt.of {w : World} {B : Nat} {A : Option Addr} {L : List Dt} (h : Ds w B A L) (hB : B ≤ w.heap.size) : MsAt w A L := h.more hB
theorem MsAt.own {w : World} {base c : Nat} {e : TypeId} {A : Option Addr} {L : List Dt} (h : Own w base e 3 A L.length c (dts L)) : MsAt w A L := h.ds
/-- Marks and a word, as two results. -/
def MsB (w : World) (A0 : Option Addr) (L : List Dt) (r : Bool) (e : Ending) (w' : World) : Prop := ∃ A c, e = .returned (.tuple #[.slice A L.length c, .bool r]) ∧ MsAt w' A L ∧ (∀ k, bl A = some k → bl A0 = some k ∨ w.heap.size ≤ k) ∧ Below w.heap.size w w'
def raiseL (L : List Dt) (a : Ac) (n : Int) : List Dt := if raisedB L a n = true then setL L a n false else L
theorem raiseL_eq {L : List Dt} (h : Vw L) (a : Ac) (n : Int) : raiseL L a n = rraise L a n := by
  unfold raiseL rraise
  split
  · exact setL_eq h.1 a n
  · rfl
set_option maxHeartbeats 1000000 in
theorem rhas17_any (w : World) (A : Option Addr) (c : Nat) (L : List Dt) (x : Dt) (hr : MsAt w A L) (hn : L.length ≤ 9223372036854775807) :
    Calls Try.prog 25 #[.slice A L.length c, dtV x] w fun e w' => e = .returned (.bool (vhasB L x)) ∧ Below w.heap.size w w' := by
  obtain ⟨⟨d, i⟩, s⟩ := x
  have CR := Lib.hid (fun w => rright_any d i s w)
  have CG := Lib.hid (fun (W : World) (hW : MsAt W A L) => rget17_any W W.heap.size A c L (d, i) hW (Nat.le_refl _) hn)
  have H := Lib.hid (C3.new w d i s 27)
  have B0 := Lib.hid ((Below.refl w.heap.size w).alloc (Nat.le_refl _) (.cells #[.int .i64 d, .int .i64 i, .int .i64 s] 27))
  have HV := Lib.hid (hr.up B0.out)
  have hs0 : (w.alloc (.cells #[.int .i64 d, .int .i64 i, .int .i64 s] 27)).heap.size = w.heap.size + 1 := by simp
  have HS := Lib.hid hs0
  generalize hN : w.heap.size = N at *
  generalize L.length = n at *
  unfold dtV
  unfold dotV at CR
  unfold acV at CG
  clear hs0 hr
  cases hr : dotB d i s
  · have hz : vhasB L ((d, i), s) = false := by unfold vhasB; rw [show rightD ((d, i), s) = dotB d i s from rfl, hr]; rfl
    rw [hz]
    rw [hr] at CR
    clear hz hr
    go_enter Try.func25, Try.ntmps25
    go_wp2_with fail
    generalize (w.alloc (.cells #[.int .i64 d, .int .i64 i, .int .i64 s] 27)) = W at *
    refine wp_region_held_drew (S := (fun W => W.cell? ⟨N, 0, none⟩ = some (.int .i64 d) ∧ W.cell? ⟨N, 1, none⟩ = some (.int .i64 i) ∧ W.cell? ⟨N, 2, none⟩ = some (.int .i64 s))) (by kernel_rfl) ?_ (fun hHeld => ?_)
    · (try dsimp only); exact H.out
    refine wpAnyH_take (i := 0) (v := ?_) rfl (by kernel_rfl) (by kernel_rfl) (by kernel_rfl) (fun _ _ _ h => h) (Or.inl ⟨by rfl, ?_⟩) (by assumption) ?_
    rotate_left
    first | (focus ((intro w hSw; (try dsimp only at hSw); go_simp); (try with_reducible rfl); done)) | fail
    try simp only [Act.put, List.getElem_toArray, List.getElem_cons_zero, List.setIfInBounds_toArray, List.set_cons_zero, List.set_cons_succ]
    refine wpAnyH_ready (rs := [1]) (by kernel_rfl) (by simp) ?_
    refine AllReadyH.cons rfl (fun K hK => ?_) AllReadyH.nil
    go_simp
    refine (CR.out _).mono ?_; rintro e w1 ⟨rfl, b1⟩
    go_wp2_with fail
    refine hK.out _ _ ?_ (fun hHeld => ?_)
    · (try dsimp only); exact C3.up hHeld (show N < W.heap.size by have := HS.out; omega) b1
    clear hK K
    try simp only [Act.put, List.getElem_toArray, List.getElem_cons_zero, List.getElem_cons_succ, List.setIfInBounds_toArray, List.set_cons_zero, List.set_cons_succ]
    refine wpAnyH_take (i := 2) (v := ?_) rfl (by kernel_rfl) (by kernel_rfl) (by kernel_rfl) (fun _ _ _ h => h) (Or.inl ⟨by rfl, ?_⟩) (by assumption) ?_
    rotate_left
    first | (focus ((intro w hSw; (try dsimp only at hSw); go_simp); (try with_reducible rfl); done)) | fail
    try simp only [Act.put, List.getElem_toArray, List.getElem_cons_zero, List.getElem_cons_succ, List.setIfInBounds_toArray, List.set_cons_zero, List.set_cons_succ]
    refine wpAnyH_take (i := 3) (v := undef) rfl (by kernel_rfl) (by kernel_rfl) (by kernel_rfl) (fun _ _ _ h => h) (Or.inr ⟨by rfl, rfl⟩) (by assumption) ?_
    try simp only [Act.put, List.getElem_toArray, List.getElem_cons_zero, List.getElem_cons_succ, List.setIfInBounds_toArray, List.set_cons_zero, List.set_cons_succ]
    refine wpAnyH_take (i := 4) (v := undef) rfl (by kernel_rfl) (by kernel_rfl) (by kernel_rfl) (fun _ _ _ h => h) (Or.inr ⟨by rfl, rfl⟩) (by assumption) ?_
    try simp only [Act.put, List.getElem_toArray, List.getElem_cons_zero, List.getElem_cons_succ, List.setIfInBounds_toArray, List.set_cons_zero, List.set_cons_succ]
    refine wpAnyH_take (i := 5) (v := undef) rfl (by kernel_rfl) (by kernel_rfl) (by kernel_rfl) (fun _ _ _ h => h) (Or.inr ⟨by rfl, rfl⟩) (by assumption) ?_
    try simp only [Act.put, List.getElem_toArray, List.getElem_cons_zero, List.getElem_cons_succ, List.setIfInBounds_toArray, List.set_cons_zero, List.set_cons_succ]
    refine wpAnyH_take (i := 6) (v := undef) rfl (by kernel_rfl) (by kernel_rfl) (by kernel_rfl) (fun _ _ _ h => h) (Or.inr ⟨by rfl, rfl⟩) (by assumption) ?_
    try simp only [Act.put, List.getElem_toArray, List.getElem_cons_zero, List.getElem_cons_succ, List.setIfInBounds_toArray, List.set_cons_zero, List.set_cons_succ]
    refine wpAnyH_take (i := 7) (v := undef) rfl (by kernel_rfl) (by kernel_rfl) (by kernel_rfl) (fun _ _ _ h => h) (Or.inr ⟨by rfl, rfl⟩) (by assumption) ?_
    try simp only [Act.put, List.getElem_toArray, List.getElem_cons_zero, List.getElem_cons_succ, List.setIfInBounds_toArray, List.set_cons_zero, List.set_cons_succ]
    refine wpAnyH_take (i := 8) (v := undef) rfl (by kernel_rfl) (by kernel_rfl) (by kernel_rfl) (fun _ _ _ h => h) (Or.inr ⟨by rfl, rfl⟩) (by assumption) ?_
    try simp only [Act.put, List.getElem_toArray, List.getElem_cons_zero, List.getElem_cons_succ, List.setIfInBounds_toArray, List.set_cons_zero, List.set_cons_succ]
    refine wpAnyH_take (i := 9) (v := undef) rfl (by kernel_rfl) (by kernel_rfl) (by kernel_rfl) (fun _ _ _ h => h) (Or.inr ⟨by rfl, rfl⟩) (by assumption) ?_
    try simp only [Act.put, List.getElem_toArray, List.getElem_cons_zero, List.getElem_cons_succ, List.setIfInBounds_toArray, List.set_cons_zero, List.set_cons_succ]
    refine wpAnyH_take (i := 10) (v := ?_) rfl (by kernel_rfl) (by kernel_rfl) (by kernel_rfl) (fun _ _ _ h => h) (Or.inl ⟨by rfl, ?_⟩) (by assumption) ?_
    rotate_left
    first | (focus ((intro w hSw; (try dsimp only at hSw); go_simp); (try with_reducible rfl); done)) | fail
    try simp only [Act.put, List.getElem_toArray, List.getElem_cons_zero, List.getElem_cons_succ, List.setIfInBounds_toArray, List.set_cons_zero, List.set_cons_succ]
    refine wpAnyH_take (i := 11) (v := ?_) rfl (by kernel_rfl) (by kernel_rfl) (by kernel_rfl) (fun _ _ _ h => h) (Or.inl ⟨by rfl, ?_⟩) (by assumption) ?_
    rotate_left
    first | (focus ((intro w hSw; (try dsimp only at hSw); go_simp); (try with_reducible rfl); done)) | fail
    try simp only [Act.put, List.getElem_toArray, List.getElem_cons_zero, List.getElem_cons_succ, List.setIfInBounds_toArray, List.set_cons_zero, List.set_cons_succ]
    refine wpAnyH_done (by kernel_rfl) ?_ _
    go_wp2
    go_ret
    exact ⟨rfl, B0.out.drew.trans (below_of_le b1 (show N ≤ W.heap.size by have := HS.out; omega))⟩
  · have hz : vhasB L ((d, i), s) = decide (s ≤ mget L (d, i)) := by unfold vhasB; rw [show rightD ((d, i), s) = dotB d i s from rfl, hr]; rfl
    rw [hz]
    rw [hr] at CR
    generalize mget L (d, i) = q at *
    clear hz hr
    go_enter Try.func25, Try.ntmps25
    go_wp2_with fail
    generalize (w.alloc (.cells #[.int .i64 d, .int .i64 i, .int .i64 s] 27)) = W at *
    refine wp_region_held_drew (S := (fun W => W.cell? ⟨N, 0, none⟩ = some (.int .i64 d) ∧ W.cell? ⟨N, 1, none⟩ = some (.int .i64 i) ∧ W.cell? ⟨N, 2, none⟩ = some (.int .i64 s))) (by kernel_rfl) ?_ (fun hHeld => ?_)
    · (try dsimp only); exact H.out
    refine wpAnyH_take (i := 0) (v := ?_) rfl (by kernel_rfl) (by kernel_rfl) (by kernel_rfl) (fun _ _ _ h => h) (Or.inl ⟨by rfl, ?_⟩) (by assumption) ?_
    rotate_left
    first | (focus ((intro w hSw; (try dsimp only at hSw); go_simp); (try with_reducible rfl); done)) | fail
    try simp only [Act.put, List.getElem_toArray, List.getElem_cons_zero, List.setIfInBounds_toArray, List.set_cons_zero, List.set_cons_succ]
    refine wpAnyH_ready (rs := [1]) (by kernel_rfl) (by simp) ?_
    refine AllReadyH.cons rfl (fun K hK => ?_) AllReadyH.nil
    go_simp
    refine (CR.out _).mono ?_; rintro e w1 ⟨rfl, b1⟩
    go_wp2_with fail
    refine hK.out _ _ ?_ (fun hHeld => ?_)
    · (try dsimp only); exact C3.up hHeld (show N < W.heap.size by have := HS.out; omega) b1
    clear hK K
    try simp only [Act.put, List.getElem_toArray, List.getElem_cons_zero, List.getElem_cons_succ, List.setIfInBounds_toArray, List.set_cons_zero, List.set_cons_succ]
    have hs1 : N < w1.heap.size := by have := HS.out; have := b1.size; simp only [World.drew] at this; omega
    refine wpAnyH_take (i := 2) (v := ?_) rfl (by kernel_rfl) (by kernel_rfl) (by kernel_rfl) (fun _ _ _ h => h) (Or.inl ⟨by rfl, ?_⟩) (by assumption) ?_
    rotate_left
    first | (focus ((intro w hSw; (try dsimp only at hSw); go_simp); (try with_reducible rfl); done)) | fail
    try simp only [Act.put, List.getElem_toArray, List.getElem_cons_zero, List.getElem_cons_succ, List.setIfInBounds_toArray, List.set_cons_zero, List.set_cons_succ]
    refine wpAnyH_take (i := 3) (v := ?_) rfl (by kernel_rfl) (by kernel_rfl) (by kernel_rfl) (fun _ _ _ h => h) (Or.inl ⟨by rfl, ?_⟩) (by assumption) ?_
    rotate_left
    first | (focus ((intro w hSw; (try dsimp only at hSw); go_simp); (try with_reducible rfl); done)) | fail
    try simp only [Act.put, List.getElem_toArray, List.getElem_cons_zero, List.getElem_cons_succ, List.setIfInBounds_toArray, List.set_cons_zero, List.set_cons_succ]
    refine wpAnyH_take (i := 4) (v := ?_) rfl (by kernel_rfl) (by kernel_rfl) (by kernel_rfl) (fun _ _ _ h => h) (Or.inl ⟨by rfl, ?_⟩) (by assumption) ?_
    rotate_left
    first | (focus ((intro w hSw; (try dsimp only at hSw); go_simp); (try with_reducible rfl); done)) | fail
    try simp only [Act.put, List.getElem_toArray, List.getElem_cons_zero, List.getElem_cons_succ, List.setIfInBounds_toArray, List.set_cons_zero, List.set_cons_succ]
    refine wpAnyH_take (i := 5) (v := ?_) rfl (by kernel_rfl) (by kernel_rfl) (by kernel_rfl) (fun _ _ _ h => h) (Or.inl ⟨by rfl, ?_⟩) (by assumption) ?_
    rotate_left
    first | (focus ((intro w hSw; (try dsimp only at hSw); go_simp); (try with_reducible rfl); done)) | fail
    try simp only [Act.put, List.getElem_toArray, List.getElem_cons_zero, List.getElem_cons_succ, List.setIfInBounds_toArray, List.set_cons_zero, List.set_cons_succ]
    refine wpAnyH_take (i := 7) (v := ?_) rfl (by kernel_rfl) (by kernel_rfl) (by kernel_rfl) (fun _ _ _ h => h) (Or.inl ⟨by rfl, ?_⟩) (by assumption) ?_
    rotate_left
    first | (focus ((intro w hSw; (try dsimp only at hSw); go_simp); (try with_reducible rfl); done)) | fail
    try simp only [Act.put, List.getElem_toArray, List.getElem_cons_zero, List.getElem_cons_succ, List.setIfInBounds_toArray, List.set_cons_zero, List.set_cons_succ]
    refine wpAnyH_take (i := 8) (v := ?_) rfl (by kernel_rfl) (by kernel_rfl) (by kernel_rfl) (fun _ _ _ h => h) (Or.inl ⟨by rfl, ?_⟩) (by assumption) ?_
    rotate_left
    first | (focus ((intro w hSw; (try dsimp only at hSw); go_simp); (try with_reducible rfl); done)) | fail
    try simp only [Act.put, List.getElem_toArray, List.getElem_cons_zero, List.getElem_cons_succ, List.setIfInBounds_toArray, List.set_cons_zero, List.set_cons_succ]
    refine wpAnyH_ready (rs := [6]) (by kernel_rfl) (by simp) ?_
    refine AllReadyH.cons rfl (fun K hK => ?_) AllReadyH.nil
    go_simp
    refine (CG.out _ ((MsAt.up HV.out (Below.drew (Below.refl _ _))).up b1)).mono ?_; rintro e w2 ⟨rfl, b2⟩
    go_wp2_with fail
    refine hK.out _ _ ?_ (fun hHeld => ?_)
    · (try dsimp only); exact C3.up hHeld hs1 b2
    clear hK K
    try simp only [Act.put, List.getElem_toArray, List.getElem_cons_zero, List.getElem_cons_succ, List.setIfInBounds_toArray, List.set_cons_zero, List.set_cons_succ]
    refine wpAnyH_take (i := 9) (v := ?_) rfl (by kernel_rfl) (by kernel_rfl) (by kernel_rfl) (fun _ _ _ h => h) (Or.inl ⟨by rfl, ?_⟩) (by assumption) ?_
    rotate_left
    first | (focus ((intro w hSw; (try dsimp only at hSw); go_simp); (try with_reducible rfl); done)) | fail
    try simp only [Act.put, List.getElem_toArray, List.getElem_cons_zero, List.getElem_cons_succ, List.setIfInBounds_toArray, List.set_cons_zero, List.set_cons_succ]
    refine wpAnyH_take (i := 10) (v := ?_) rfl (by kernel_rfl) (by kernel_rfl) (by kernel_rfl) (fun _ _ _ h => h) (Or.inl ⟨by rfl, ?_⟩) (by assumption) ?_
    rotate_left
    first | (focus ((intro w hSw; (try dsimp only at hSw); go_simp); (try with_reducible rfl); done)) | fail
    try simp only [Act.put, List.getElem_toArray, List.getElem_cons_zero, List.getElem_cons_succ, List.setIfInBounds_toArray, List.set_cons_zero, List.set_cons_succ]
    refine wpAnyH_take (i := 11) (v := ?_) rfl (by kernel_rfl) (by kernel_rfl) (by kernel_rfl) (fun _ _ _ h => h) (Or.inl ⟨by rfl, ?_⟩) (by assumption) ?_
    rotate_left
    first | (focus ((intro w hSw; (try dsimp only at hSw); go_simp); (try with_reducible rfl); done)) | fail
    try simp only [Act.put, List.getElem_toArray, List.getElem_cons_zero, List.getElem_cons_succ, List.setIfInBounds_toArray, List.set_cons_zero, List.set_cons_succ]
    refine wpAnyH_done (by kernel_rfl) ?_ _
    go_wp2
    go_ret
    exact ⟨rfl, (B0.out.drew.trans (below_of_le b1 (show N ≤ W.heap.size by have := HS.out; omega))).trans (below_of_le b2 (by omega))⟩
set_option maxHeartbeats 1000000 in
theorem rraise17_any (w : World) (A : Option Addr) (c : Nat) (L : List Dt) (a : Ac) (n : Int) (hr : MsAt w A L) (hn : L.length ≤ 100000000) :
    Calls Try.prog 18 #[.slice A L.length c, acV a, .int .i64 n] w (MsB w A (raiseL L a n) (raisedB L a n)) := by
  obtain ⟨d, i⟩ := a
  have CR := Lib.hid (fun w => rright_any d i n w)
  have CG := Lib.hid (fun (W : World) (hW : MsAt W A L) => rget17_any W W.heap.size A c L (d, i) hW (Nat.le_refl _) (by omega))
  have CS := Lib.hid (fun (W : World) (hW : MsAt W A L) => rset17_any W W.heap.size A c L (d, i) n hW (Nat.le_refl _) hn)
  have hrd : rightD ((d, i), n) = dotB d i n := rfl
  have hrb : raisedB L (d, i) n = (dotB d i n && decide (mget L (d, i) < n)) := rfl
  have hrl : raiseL L (d, i) n = if raisedB L (d, i) n = true then setL L (d, i) n false else L := rfl
  have B0 := Lib.hid ((Below.refl w.heap.size w).alloc (Nat.le_refl _) (.cells #[.int .i64 d, .int .i64 i] 25))
  have HW := Lib.hid (Whole.new w 25 #[.int .i64 d, .int .i64 i])
  have HV := Lib.hid (hr.up B0.out)
  have HO := Lib.hid hr
  have hs0 : (w.alloc (.cells #[.int .i64 d, .int .i64 i] 25)).heap.size = w.heap.size + 1 := by simp
  have HS := Lib.hid hs0
  generalize hq : mget L (d, i) = q at *
  generalize hT : setL L (d, i) n false = T at *
  have HL := Lib.hid (rfl : L.length = L.length)
  generalize hlen : L.length = m at *
  have HLen := Lib.hid hlen
  generalize hN : w.heap.size = N at *
  unfold acV
  unfold dotV at CR
  unfold acV at CG CS
  rw [hrl, hrb]
  clear hs0 hr hrd hrb hrl hq hT hlen HL
  cases hr : dotB d i n
  · have HE := Lib.hid (fun (W : World) (b : Below N w W) => (show MsB w A L false (.returned (.tuple #[.slice A m c, .bool false])) W from ⟨A, c, by rw [HLen.out], HO.out.up (by rw [hN]; exact b), fun k h => .inl h, by rw [hN]; exact b⟩))
    rw [hr] at CR
    simp only [Bool.false_and, Bool.false_eq_true, if_false]
    clear hr
    go_enter Try.func18, Try.ntmps18
    have hW := HW.out
    go_wp2_with fail
    refine (CR.out _).mono ?_; rintro e w1 ⟨rfl, b1⟩
    go_wp2
    go_ret2
    exact HE.out _ (B0.out.trans (below_of_le b1 (by have := HS.out; omega)))
  · rw [hr] at CR
    simp only [Bool.true_and]
    clear hr
    by_cases hlt : q < n
    · have hd : decide (q < n) = true := decide_eq_true hlt
      have hd2 : decide (n ≤ q) = false := decide_eq_false (by omega)
      have HE := Lib.hid (fun (W : World) (b : Below N w W) (A' : Option Addr) (c' : Nat) (h : MsAt W A' T) (hk : ∀ k, bl A' = some k → N ≤ k) => (show MsB w A T true (.returned (.tuple #[.slice A' T.length c', .bool true])) W from ⟨A', c', rfl, h, fun k hh => .inr (by rw [hN]; exact hk k hh), by rw [hN]; exact b⟩))
      simp only [hd, if_true]
      go_enter Try.func18, Try.ntmps18
      go_wp2_with fail
      refine (CR.out _).mono ?_; rintro e w1 ⟨rfl, b1⟩
      have hW1 := (HW.out.below b1 (by have := HS.out; omega))
      have k0 : w1.cell? ⟨N, 0, none⟩ = some (.int .i64 d) := by rw [hW1.cell]; rfl
      have k1 : w1.cell? ⟨N, 1, none⟩ = some (.int .i64 i) := by rw [hW1.cell]; rfl
      have HV1 := Lib.hid (And.intro (HV.out.up b1) (And.intro hW1 (B0.out.trans (below_of_le b1 (by have := HS.out; omega)))))
      clear b1 hW1
      go_wp2_with fail
      refine (CG.out _ HV1.out.1).mono ?_; rintro e w2 ⟨rfl, b2⟩
      have hW2 := (HV1.out.2.1.below b2 HV1.out.2.1.lt)
      have l0 : w2.cell? ⟨N, 0, none⟩ = some (.int .i64 d) := by rw [hW2.cell]; rfl
      have l1 : w2.cell? ⟨N, 1, none⟩ = some (.int .i64 i) := by rw [hW2.cell]; rfl
      have HV2 := Lib.hid (And.intro (HV1.out.1.up b2) (HV1.out.2.2.trans (below_of_le b2 (Nat.le_of_lt HV1.out.2.1.lt))))
      have hN2 : N ≤ w2.heap.size := Nat.le_of_lt hW2.lt
      clear b2 hW2 k0 k1
      go_wp2_with fail
      refine (CS.out _ HV2.out.1).mono ?_; rintro e w3 ⟨A3, c3, rfl, o3, b3⟩
      have HF := Lib.hid (HE.out w3 (HV2.out.2.trans (below_of_le b3 hN2)) A3 c3 (MsAt.own o3) (fun k hk => Nat.le_trans hN2 (o3.bl_lo k hk)))
      clear o3 b3
      go_wp2
      go_ret2
      exact HF.out
    · have hd : decide (q < n) = false := decide_eq_false hlt
      have hd2 : decide (n ≤ q) = true := decide_eq_true (by omega)
      have HE := Lib.hid (fun (W : World) (b : Below N w W) => (show MsB w A L false (.returned (.tuple #[.slice A m c, .bool false])) W from ⟨A, c, by rw [HLen.out], HO.out.up (by rw [hN]; exact b), fun k h => .inl h, by rw [hN]; exact b⟩))
      simp only [hd, Bool.false_eq_true, if_false]
      go_enter Try.func18, Try.ntmps18
      go_wp2_with fail
      refine (CR.out _).mono ?_; rintro e w1 ⟨rfl, b1⟩
      have hW1 := (HW.out.below b1 (by have := HS.out; omega))
      have k0 : w1.cell? ⟨N, 0, none⟩ = some (.int .i64 d) := by rw [hW1.cell]; rfl
      have k1 : w1.cell? ⟨N, 1, none⟩ = some (.int .i64 i) := by rw [hW1.cell]; rfl
      have HV1 := Lib.hid (And.intro (HV.out.up b1) (And.intro hW1.lt (B0.out.trans (below_of_le b1 (by have := HS.out; omega)))))
      clear b1 hW1
      go_wp2_with fail
      refine (CG.out _ HV1.out.1).mono ?_; rintro e w2 ⟨rfl, b2⟩
      have HF := Lib.hid (HE.out w2 (HV1.out.2.2.trans (below_of_le b2 (Nat.le_of_lt HV1.out.2.1))))
      clear b2
      go_wp2
      go_ret2
      exact HF.out
end Go.Proofs.Ytailbppddnegoaa
