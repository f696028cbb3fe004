/- Layer 17, the document's marks: Set. -/
import Derived.Test.YtailbppddnegoaaY8
namespace Go.Proofs.Ytailbppddnegoaa
open Go.RowKit
set_option linter.unusedVariables false
set_option maxRecDepth 100000
attribute [local go_sem ↓] Go.wp_at_zero Go.wp_at_succ

theorem ahead_aLt (a b : Ac) : aheadB a.1 a.2 b.1 b.2 = aLt a b := by
  rw [Bool.eq_iff_iff]
  unfold aheadB aLt
  split <;> (simp only [decide_eq_true_eq]; omega)
theorem own_eM (w : World) (e : TypeId) (base : Nat) (h : base ≤ w.heap.size) : Own (w.alloc (.cells #[] e)) base e 3 (some ⟨w.heap.size, 0, none⟩) 0 0 [] :=
  ⟨⟨rfl, .inr ⟨w.heap.size, 0, #[], rfl, h, heap_alloc_new w _, Nat.le_refl _, by simp [maxLen], by simp, by simp⟩⟩, Nat.le_refl _, by simp [maxLen]⟩
theorem setL_cons (x : Dt) (r : List Dt) (a : Ac) (n : Int) (i : Bool) : setL (x :: r) a n i = (if !i && !aLt x.1 a then [(a, n)] else []) ++ (if x.1 ≠ a then [x] else []) ++ setL r a n (i || !aLt x.1 a) := rfl
theorem setL_lenT (L : List Dt) (a : Ac) (n : Int) : (setL L a n true).length ≤ L.length := by
  rw [setL_true]; exact List.length_filter_le _ _
theorem setL_len (L : List Dt) (a : Ac) (n : Int) : (setL L a n false).length ≤ L.length + 1 := by
  induction L with
  | nil => unfold setL; simp
  | cons x r ih =>
    have h1 := setL_lenT r a n
    unfold setL
    cases hx : aLt x.1 a
    · by_cases he : x.1 = a <;> simp [he] <;> omega
    · by_cases he : x.1 = a <;> simp [he] <;> omega
/-- A slice of marks that the call has made. -/
def NewMs (w : World) (L : List Dt) (e : Ending) (w' : World) : Prop := ∃ A c, e = .returned (.slice A L.length c) ∧ Own w' w.heap.size 33 3 A L.length c (dts L) ∧ Below w.heap.size w w'
/-- What the loop has. -/
def SetI (w wr : World) (N : Nat) (d1 d2 : Int) (A3 : Option Addr) (c3 : Nat) (S : List Dt) : Prop :=
  Own wr (N + 1) 33 3 A3 S.length c3 (dts S) ∧ Whole wr N 25 #[.int .i64 d1, .int .i64 d2] ∧ Below N w wr
theorem SetI.up {w wr w' : World} {N : Nat} {d1 d2 : Int} {A3 : Option Addr} {c3 : Nat} {S : List Dt} (h : SetI w wr N d1 d2 A3 c3 S) (b : Below wr.heap.size wr w') : SetI w w' N d1 d2 A3 c3 S :=
  ⟨h.1.below b (Nat.le_refl _), h.2.1.below b h.2.1.lt, h.2.2.trans (below_of_le b (Nat.le_of_lt h.2.1.lt))⟩
theorem SetI.app {w wr : World} {N : Nat} {d1 d2 : Int} {A3 : Option Addr} {c3 : Nat} {S : List Dt} (h : SetI w wr N d1 d2 A3 c3 S) (x : Dt) (hl : S.length ≤ 3000000000) :
    ∃ A2 c2 w', (Builtin.append_ #[22, 22] 22 #[.slice A3 S.length c3, .slice (some ⟨wr.heap.size, 0, none⟩) 1 1]).run Try.prog (wr.alloc (.cells #[.int .i64 x.1.1, .int .i64 x.1.2, .int .i64 x.2] 33)) = .ok (.slice A2 (S.length + 1) c2) w' ∧ SetI w w' N d1 d2 A2 c2 (S ++ [x]) := by
  have hlt := h.2.1.lt
  obtain ⟨A2, c2, w', q, o, ch, b⟩ := app1 wr (N + 1) A3 S.length c3 S rfl h.1 x hl (by omega)
  refine ⟨A2, c2, w', q, by simpa using o, h.2.1.ch ch (fun e => ?_), h.2.2.trans (below_of_le b (by omega))⟩
  have := h.1.bl_lo N e.symm
  omega
set_option maxHeartbeats 2000000 in
theorem rset17_any (w : World) (B : Nat) (A : Option Addr) (c : Nat) (L : List Dt) (a : Ac) (n : Int) (hr : Ds w B A L) (hB : B ≤ w.heap.size) (hn : L.length ≤ 100000000) :
    Calls Try.prog 83 #[.slice A L.length c, acV a, .int .i64 n] w (NewMs w (setL L a n false)) := by
  generalize hlen : L.length = m at *
  have HL := Lib.hid hlen
  have HR := Lib.hid hr
  have CL := Lib.hid (fun d i d' i' W => rahead_any d i d' i' W)
  clear hlen hr
  obtain ⟨d1, d2⟩ := a
  have e0 : SetI w ((w.alloc (.cells #[.int .i64 d1, .int .i64 d2] 25)).alloc (.cells #[] 33)) w.heap.size d1 d2 (some ⟨w.heap.size + 1, 0, none⟩) 0 [] := by
    refine ⟨?_, (Whole.new w 25 #[.int .i64 d1, .int .i64 d2]).alloc _, ((Below.refl _ _).alloc (Nat.le_refl _) _).alloc (by simp) _⟩
    have := own_eM (w.alloc (.cells #[.int .i64 d1, .int .i64 d2] 25)) 33 (w.heap.size + 1) (by simp)
    simpa [dts] using this
  have E0 := Lib.hid e0
  clear e0
  generalize hN : w.heap.size = N at *
  unfold acV
  unfold actV at CL
  go_enter Try.func83, Try.ntmps83
  go_wp2_with fail
  generalize ((w.alloc (.cells #[.int .i64 d1, .int .i64 d2] 25)).alloc (.cells #[] 33)) = W0 at *
  go_loopw [7, 8, 9] (fun y f i wr => ∃ (j : Nat) (S : List Dt) (A3 : Option Addr) (c3 : Nat) (fb : Bool), j ≤ m ∧ i = .int .i64 j ∧ y = .slice A3 S.length c3 ∧ f = .bool fb ∧ S.length ≤ 2 * j ∧ setL L (d1, d2) n false = S ++ setL (L.drop j) (d1, d2) n fb ∧ SetI w wr N d1 d2 A3 c3 S) (fun _ _ i _ => m - (intOf i).toNat)
  case atStart => exact ⟨0, [], some ⟨N + 1, 0, none⟩, 0, false, by omega, rfl, rfl, rfl, by simp, rfl, E0.out⟩
  case round =>
    obtain ⟨j, S, A3, c3, fb, hj, rfl, rfl, rfl, hSj, hS, hI⟩ := hrel
    clear E0
    have HS := Lib.hid hS
    have HI := Lib.hid hI
    clear hS hI
    by_cases hlt : j < m
    · obtain ⟨x, hx⟩ : ∃ x, L[j]? = some x := ⟨L[j]'(by have := HL.out; omega), List.getElem?_eq_getElem _⟩
      obtain ⟨b0, o0, hA, hb0, c0, c1, c2⟩ := (HR.out.below (HI.out.2.2.mono hB)).at_ hx
      have hdr := Lib.hid (show L.drop j = x :: L.drop (j + 1) by
        obtain ⟨hi, he⟩ := List.getElem?_eq_some_iff.1 hx
        rw [List.drop_eq_getElem_cons hi, he])
      obtain ⟨⟨x1, x2⟩, x3⟩ := x
      simp only at c0 c1 c2
      have hal : aheadB x1 x2 d1 d2 = aLt (x1, x2) (d1, d2) := ahead_aLt (x1, x2) (d1, d2)
      have CA := Lib.hid (fun W => CL.out x1 x2 d1 d2 W)
      rw [hal] at CA
      have hNr : N < wr.heap.size := HI.out.2.1.lt
      have k0 : wr.cell? ⟨N, 0, none⟩ = some (.int .i64 d1) := by rw [HI.out.2.1.cell]; rfl
      have k1 : wr.cell? ⟨N, 1, none⟩ = some (.int .i64 d2) := by rw [HI.out.2.1.cell]; rfl
      have HX := Lib.hid (And.intro hx (And.intro c0 (And.intro c1 (And.intro c2 (And.intro k0 k1)))))
      clear hx c0 c1 c2 k0 k1 hal
      subst hA
      generalize hq : aLt (x1, x2) (d1, d2) = lt at *
      have HQ := Lib.hid hq
      clear hq
      go_upto_region 6 with fail
      go_cut [28] from 17 to 28 (fun cb wx => cb = .bool (!fb && !lt) ∧ Below wr.heap.size wr wx)
      case first =>
        cases fb
        · skip
          refine wp_region_held_drew (S := (fun W => W.cell? ⟨b0, o0 + j * 3, none⟩ = some (.int .i64 x1) ∧ W.cell? ⟨b0, o0 + j * 3 + 1, none⟩ = some (.int .i64 x2) ∧ W.cell? ⟨N, 0, none⟩ = some (.int .i64 d1) ∧ W.cell? ⟨N, 1, none⟩ = some (.int .i64 d2))) (by kernel_rfl) ?_ (fun hHeld => ?_)
          · (try dsimp only); exact ⟨HX.out.2.1, HX.out.2.2.1, HX.out.2.2.2.2.1, HX.out.2.2.2.2.2⟩
          refine wpAnyH_take (i := 0) (v := ?_) rfl (by kernel_rfl) (by kernel_rfl) (by kernel_rfl) (fun _ _ _ h => h) (Or.inl ⟨by rfl, ?_⟩) (by assumption) ?_
          rotate_left
          · (intro w hSw; (try dsimp only at hSw); go_simp); try with_reducible rfl
          try simp only [Act.put, List.getElem_toArray, List.getElem_cons_zero, List.setIfInBounds_toArray, List.set_cons_zero, List.set_cons_succ]
          refine wpAnyH_take (i := 1) (v := ?_) rfl (by kernel_rfl) (by kernel_rfl) (by kernel_rfl) (fun _ _ _ h => h) (Or.inl ⟨by rfl, ?_⟩) (by assumption) ?_
          rotate_left
          · (intro w hSw; (try dsimp only at hSw); go_simp); try with_reducible rfl
          try simp only [Act.put, List.getElem_toArray, List.getElem_cons_zero, List.getElem_cons_succ, List.setIfInBounds_toArray, List.set_cons_zero, List.set_cons_succ]
          refine wpAnyH_take (i := 2) (v := ?_) rfl (by kernel_rfl) (by kernel_rfl) (by kernel_rfl) (fun _ _ _ h => h) (Or.inl ⟨by rfl, ?_⟩) (by assumption) ?_
          rotate_left
          · (intro w hSw; (try dsimp only at hSw); go_simp); try with_reducible rfl
          try simp only [Act.put, List.getElem_toArray, List.getElem_cons_zero, List.getElem_cons_succ, List.setIfInBounds_toArray, List.set_cons_zero, List.set_cons_succ]
          refine wpAnyH_take (i := 3) (v := ?_) rfl (by kernel_rfl) (by kernel_rfl) (by kernel_rfl) (fun _ _ _ h => h) (Or.inl ⟨by rfl, ?_⟩) (by assumption) ?_
          rotate_left
          · (intro w hSw; (try dsimp only at hSw); go_simp); try with_reducible rfl
          try simp only [Act.put, List.getElem_toArray, List.getElem_cons_zero, List.getElem_cons_succ, List.setIfInBounds_toArray, List.set_cons_zero, List.set_cons_succ]
          refine wpAnyH_take (i := 4) (v := ?_) rfl (by kernel_rfl) (by kernel_rfl) (by kernel_rfl) (fun _ _ _ h => h) (Or.inl ⟨by rfl, ?_⟩) (by assumption) ?_
          rotate_left
          · (intro w hSw; (try dsimp only at hSw); go_simp); try with_reducible rfl
          try simp only [Act.put, List.getElem_toArray, List.getElem_cons_zero, List.getElem_cons_succ, List.setIfInBounds_toArray, List.set_cons_zero, List.set_cons_succ]
          refine wpAnyH_take (i := 5) (v := ?_) rfl (by kernel_rfl) (by kernel_rfl) (by kernel_rfl) (fun _ _ _ h => h) (Or.inl ⟨by rfl, ?_⟩) (by assumption) ?_
          rotate_left
          · (intro w hSw; (try dsimp only at hSw); go_simp); try with_reducible rfl
          try simp only [Act.put, List.getElem_toArray, List.getElem_cons_zero, List.getElem_cons_succ, List.setIfInBounds_toArray, List.set_cons_zero, List.set_cons_succ]
          refine wpAnyH_take (i := 6) (v := ?_) rfl (by kernel_rfl) (by kernel_rfl) (by kernel_rfl) (fun _ _ _ h => h) (Or.inl ⟨by rfl, ?_⟩) (by assumption) ?_
          rotate_left
          · (intro w hSw; (try dsimp only at hSw); go_simp); try with_reducible rfl
          try simp only [Act.put, List.getElem_toArray, List.getElem_cons_zero, List.getElem_cons_succ, List.setIfInBounds_toArray, List.set_cons_zero, List.set_cons_succ]
          refine wpAnyH_take (i := 7) (v := ?_) rfl (by kernel_rfl) (by kernel_rfl) (by kernel_rfl) (fun _ _ _ h => h) (Or.inl ⟨by rfl, ?_⟩) (by assumption) ?_
          rotate_left
          · (intro w hSw; (try dsimp only at hSw); go_simp); try with_reducible rfl
          try simp only [Act.put, List.getElem_toArray, List.getElem_cons_zero, List.getElem_cons_succ, List.setIfInBounds_toArray, List.set_cons_zero, List.set_cons_succ]
          refine wpAnyH_take (i := 8) (v := ?_) rfl (by kernel_rfl) (by kernel_rfl) (by kernel_rfl) (fun _ _ _ h => h) (Or.inl ⟨by rfl, ?_⟩) (by assumption) ?_
          rotate_left
          · (intro w hSw; (try dsimp only at hSw); go_simp); try with_reducible rfl
          try simp only [Act.put, List.getElem_toArray, List.getElem_cons_zero, List.getElem_cons_succ, List.setIfInBounds_toArray, List.set_cons_zero, List.set_cons_succ]
          refine wpAnyH_ready (rs := [9]) (by kernel_rfl) (by simp) ?_
          refine AllReadyH.cons rfl (fun K hK => ?_) AllReadyH.nil
          go_simp
          refine (CA.out _).mono ?_; rintro e w5 ⟨rfl, b5⟩
          go_wp2_with fail
          refine hK.out _ _ ?_ (fun hHeld => ?_)
          · (try dsimp only); exact ⟨(b5.cell (by show b0 < wr.heap.size; have := HI.out.2.2.size; omega)).trans hHeld.1, (b5.cell (by show b0 < wr.heap.size; have := HI.out.2.2.size; omega)).trans hHeld.2.1, (b5.cell (by show N < wr.heap.size; omega)).trans hHeld.2.2.1, (b5.cell (by show N < wr.heap.size; omega)).trans hHeld.2.2.2⟩
          clear hK K
          try simp only [Act.put, List.getElem_toArray, List.getElem_cons_zero, List.getElem_cons_succ, List.setIfInBounds_toArray, List.set_cons_zero, List.set_cons_succ]
          refine wpAnyH_take (i := 10) (v := ?_) rfl (by kernel_rfl) (by kernel_rfl) (by kernel_rfl) (fun _ _ _ h => h) (Or.inl ⟨by rfl, ?_⟩) (by assumption) ?_
          rotate_left
          · (intro w hSw; (try dsimp only at hSw); go_simp); try with_reducible rfl
          try simp only [Act.put, List.getElem_toArray, List.getElem_cons_zero, List.getElem_cons_succ, List.setIfInBounds_toArray, List.set_cons_zero, List.set_cons_succ]
          refine wpAnyH_take (i := 11) (v := ?_) rfl (by kernel_rfl) (by kernel_rfl) (by kernel_rfl) (fun _ _ _ h => h) (Or.inl ⟨by rfl, ?_⟩) (by assumption) ?_
          rotate_left
          · (intro w hSw; (try dsimp only at hSw); go_simp); try with_reducible rfl
          try simp only [Act.put, List.getElem_toArray, List.getElem_cons_zero, List.getElem_cons_succ, List.setIfInBounds_toArray, List.set_cons_zero, List.set_cons_succ]
          refine wpAnyH_done (by kernel_rfl) ?_ _
          go_wp2
          go_meet
          exact ⟨rfl, Below.trans (Below.drew (Below.refl _ _)) b5⟩
        · skip
          refine wp_region_held_drew (S := (fun _ => True)) (by kernel_rfl) ?_ (fun hHeld => ?_)
          · (try dsimp only); try trivial
          refine wpAnyH_take (i := 0) (v := ?_) rfl (by kernel_rfl) (by kernel_rfl) (by kernel_rfl) (fun _ _ _ h => h) (Or.inl ⟨by rfl, ?_⟩) (by assumption) ?_
          rotate_left
          · (intro w hSw; (try dsimp only at hSw); go_simp); try with_reducible rfl
          try simp only [Act.put, List.getElem_toArray, List.getElem_cons_zero, List.setIfInBounds_toArray, List.set_cons_zero, List.set_cons_succ]
          refine wpAnyH_take (i := 1) (v := ?_) rfl (by kernel_rfl) (by kernel_rfl) (by kernel_rfl) (fun _ _ _ h => h) (Or.inl ⟨by rfl, ?_⟩) (by assumption) ?_
          rotate_left
          · (intro w hSw; (try dsimp only at hSw); go_simp); try with_reducible rfl
          try simp only [Act.put, List.getElem_toArray, List.getElem_cons_zero, List.getElem_cons_succ, List.setIfInBounds_toArray, List.set_cons_zero, List.set_cons_succ]
          refine wpAnyH_take (i := 2) (v := ?_) rfl (by kernel_rfl) (by kernel_rfl) (by kernel_rfl) (fun _ _ _ h => h) (Or.inl ⟨by rfl, ?_⟩) (by assumption) ?_
          rotate_left
          · (intro w hSw; (try dsimp only at hSw); go_simp); try with_reducible rfl
          try simp only [Act.put, List.getElem_toArray, List.getElem_cons_zero, List.getElem_cons_succ, List.setIfInBounds_toArray, List.set_cons_zero, List.set_cons_succ]
          refine wpAnyH_take (i := 3) (v := undef) rfl (by kernel_rfl) (by kernel_rfl) (by kernel_rfl) (fun _ _ _ h => h) (Or.inr ⟨by rfl, rfl⟩) (by assumption) ?_
          try simp only [Act.put, List.getElem_toArray, List.getElem_cons_zero, List.getElem_cons_succ, List.setIfInBounds_toArray, List.set_cons_zero, List.set_cons_succ]
          refine wpAnyH_take (i := 4) (v := undef) rfl (by kernel_rfl) (by kernel_rfl) (by kernel_rfl) (fun _ _ _ h => h) (Or.inr ⟨by rfl, rfl⟩) (by assumption) ?_
          try simp only [Act.put, List.getElem_toArray, List.getElem_cons_zero, List.getElem_cons_succ, List.setIfInBounds_toArray, List.set_cons_zero, List.set_cons_succ]
          refine wpAnyH_take (i := 5) (v := undef) rfl (by kernel_rfl) (by kernel_rfl) (by kernel_rfl) (fun _ _ _ h => h) (Or.inr ⟨by rfl, rfl⟩) (by assumption) ?_
          try simp only [Act.put, List.getElem_toArray, List.getElem_cons_zero, List.getElem_cons_succ, List.setIfInBounds_toArray, List.set_cons_zero, List.set_cons_succ]
          refine wpAnyH_take (i := 6) (v := undef) rfl (by kernel_rfl) (by kernel_rfl) (by kernel_rfl) (fun _ _ _ h => h) (Or.inr ⟨by rfl, rfl⟩) (by assumption) ?_
          try simp only [Act.put, List.getElem_toArray, List.getElem_cons_zero, List.getElem_cons_succ, List.setIfInBounds_toArray, List.set_cons_zero, List.set_cons_succ]
          refine wpAnyH_take (i := 7) (v := undef) rfl (by kernel_rfl) (by kernel_rfl) (by kernel_rfl) (fun _ _ _ h => h) (Or.inr ⟨by rfl, rfl⟩) (by assumption) ?_
          try simp only [Act.put, List.getElem_toArray, List.getElem_cons_zero, List.getElem_cons_succ, List.setIfInBounds_toArray, List.set_cons_zero, List.set_cons_succ]
          refine wpAnyH_take (i := 8) (v := undef) rfl (by kernel_rfl) (by kernel_rfl) (by kernel_rfl) (fun _ _ _ h => h) (Or.inr ⟨by rfl, rfl⟩) (by assumption) ?_
          try simp only [Act.put, List.getElem_toArray, List.getElem_cons_zero, List.getElem_cons_succ, List.setIfInBounds_toArray, List.set_cons_zero, List.set_cons_succ]
          refine wpAnyH_take (i := 9) (v := undef) rfl (by kernel_rfl) (by kernel_rfl) (by kernel_rfl) (fun _ _ _ h => h) (Or.inr ⟨by rfl, rfl⟩) (by assumption) ?_
          try simp only [Act.put, List.getElem_toArray, List.getElem_cons_zero, List.getElem_cons_succ, List.setIfInBounds_toArray, List.set_cons_zero, List.set_cons_succ]
          refine wpAnyH_take (i := 10) (v := undef) rfl (by kernel_rfl) (by kernel_rfl) (by kernel_rfl) (fun _ _ _ h => h) (Or.inr ⟨by rfl, rfl⟩) (by assumption) ?_
          try simp only [Act.put, List.getElem_toArray, List.getElem_cons_zero, List.getElem_cons_succ, List.setIfInBounds_toArray, List.set_cons_zero, List.set_cons_succ]
          refine wpAnyH_take (i := 11) (v := ?_) rfl (by kernel_rfl) (by kernel_rfl) (by kernel_rfl) (fun _ _ _ h => h) (Or.inl ⟨by rfl, ?_⟩) (by assumption) ?_
          rotate_left
          · (intro w hSw; (try dsimp only at hSw); go_simp); try with_reducible rfl
          try simp only [Act.put, List.getElem_toArray, List.getElem_cons_zero, List.getElem_cons_succ, List.setIfInBounds_toArray, List.set_cons_zero, List.set_cons_succ]
          refine wpAnyH_done (by kernel_rfl) ?_ _
          go_wp2
          go_meet
          exact ⟨rfl, (Below.refl _ _).drew⟩
      case rest =>
        obtain ⟨rfl, hbc⟩ := hcut
        generalize hc : (!fb && !lt) = cb at *
        have HB := Lib.hid (And.intro hbc hc)
        clear hbc hc
        have hI1 := Lib.hid (HI.out.up HB.out.1)
        have hsz := HB.out.1.size
        go_upto_if 28 with fail
        go_cut [7, 8] from 29 to 34 (fun y f wx => ∃ (A4 : Option Addr) (c4 : Nat), y = .slice A4 (S ++ (if cb then [((d1, d2), n)] else [])).length c4 ∧ f = .bool (fb || !lt) ∧ SetI w wx N d1 d2 A4 c4 (S ++ (if cb then [((d1, d2), n)] else [])))
        case first =>
          cases cb
          · have hf := Lib.hid (show fb = (fb || !lt) by have := HB.out.2; revert this; cases fb <;> cases lt <;> simp)
            go_wp2
            go_meet
            refine ⟨A3, c3, by simp, congrArg Value.bool hf.out, by simpa using hI1.out⟩
          · have hf := Lib.hid (show true = (fb || !lt) by have := HB.out.2; revert this; cases fb <;> cases lt <;> simp)
            obtain ⟨A4, c4, w4, q4, h4⟩ := hI1.out.app ((d1, d2), n) (by omega)
            have H4 := Lib.hid h4
            have Q4 := Lib.hid q4
            have k0 : wc.cell? ⟨N, 0, none⟩ = some (.int .i64 d1) := by rw [hI1.out.2.1.cell]; rfl
            have k1 : wc.cell? ⟨N, 1, none⟩ = some (.int .i64 d2) := by rw [hI1.out.2.1.cell]; rfl
            clear h4 q4
            go_wp2_with (at_builtin; refine wpList_want (by rfl) (fun K hK => wp_append_runs _ _ _ _ _ rfl _ _ rfl rfl _ _ Q4.out (hK _ _ ?_)))
            go_wp2
            go_meet
            exact ⟨A4, c4, by simp, congrArg Value.bool hf.out, by simpa using H4.out⟩
        case rest =>
          obtain ⟨A4, c4, rfl, rfl, hI2⟩ := hcut
          have hl1 : (S ++ (if cb then [((d1, d2), n)] else [])).length ≤ 2 * j + 1 := by cases cb <;> simp <;> omega
          have hs1 := Lib.hid (show setL L (d1, d2) n false = (S ++ (if cb then [((d1, d2), n)] else [])) ++ ((if (x1, x2) ≠ (d1, d2) then [((x1, x2), x3)] else []) ++ setL (L.drop (j + 1)) (d1, d2) n (fb || !lt)) by
            rw [HS.out, hdr.out, setL_cons]
            simp only [HQ.out, HB.out.2, List.append_assoc])
          generalize (S ++ (if cb then [((d1, d2), n)] else [])) = S1 at *
          have HI2 := Lib.hid hI2
          obtain ⟨b1, o1, hA1, hb1, c0, c1, c2⟩ := (HR.out.below (hI2.2.2.mono hB)).at_ HX.out.1
          simp only at c0 c1 c2
          cases hA1
          have k0 : wc.cell? ⟨N, 0, none⟩ = some (.int .i64 d1) := by rw [hI2.2.1.cell]; rfl
          have k1 : wc.cell? ⟨N, 1, none⟩ = some (.int .i64 d2) := by rw [hI2.2.1.cell]; rfl
          have HC := Lib.hid (And.intro c0 (And.intro c1 (And.intro c2 (And.intro k0 k1))))
          clear hI2 c0 c1 c2 k0 k1 HI hI1 HS
          rcases two2 x1 x2 d1 d2 with ⟨rfl, rfl⟩ | he
          · have hs2 := Lib.hid (show setL L (x1, x2) n false = S1 ++ setL (L.drop (j + 1)) (x1, x2) n (fb || !lt) by rw [hs1.out]; simp)
            go_wp2_with fail
            refine wp_region_held_drew (S := (fun W => W.cell? ⟨b0, o0 + j * 3, none⟩ = some (.int .i64 x1) ∧ W.cell? ⟨b0, o0 + j * 3 + 1, none⟩ = some (.int .i64 x2) ∧ W.cell? ⟨N, 0, none⟩ = some (.int .i64 x1) ∧ W.cell? ⟨N, 1, none⟩ = some (.int .i64 x2))) (by kernel_rfl) ?_ (fun hHeld => ?_)
            · (try dsimp only); exact ⟨HC.out.1, HC.out.2.1, HC.out.2.2.2.1, HC.out.2.2.2.2⟩
            refine wpAnyH_take (i := 0) (v := ?_) rfl (by kernel_rfl) (by kernel_rfl) (by kernel_rfl) (fun _ _ _ h => h) (Or.inl ⟨by rfl, ?_⟩) (by assumption) ?_
            rotate_left
            · (intro w hSw; (try dsimp only at hSw); go_simp); try with_reducible rfl
            try simp only [Act.put, List.getElem_toArray, List.getElem_cons_zero, List.setIfInBounds_toArray, List.set_cons_zero, List.set_cons_succ]
            refine wpAnyH_take (i := 1) (v := ?_) rfl (by kernel_rfl) (by kernel_rfl) (by kernel_rfl) (fun _ _ _ h => h) (Or.inl ⟨by rfl, ?_⟩) (by assumption) ?_
            rotate_left
            · (intro w hSw; (try dsimp only at hSw); go_simp); try with_reducible rfl
            try simp only [Act.put, List.getElem_toArray, List.getElem_cons_zero, List.getElem_cons_succ, List.setIfInBounds_toArray, List.set_cons_zero, List.set_cons_succ]
            refine wpAnyH_take (i := 2) (v := ?_) rfl (by kernel_rfl) (by kernel_rfl) (by kernel_rfl) (fun _ _ _ h => h) (Or.inl ⟨by rfl, ?_⟩) (by assumption) ?_
            rotate_left
            · (intro w hSw; (try dsimp only at hSw); go_simp); try with_reducible rfl
            try simp only [Act.put, List.getElem_toArray, List.getElem_cons_zero, List.getElem_cons_succ, List.setIfInBounds_toArray, List.set_cons_zero, List.set_cons_succ]
            refine wpAnyH_take (i := 3) (v := ?_) rfl (by kernel_rfl) (by kernel_rfl) (by kernel_rfl) (fun _ _ _ h => h) (Or.inl ⟨by rfl, ?_⟩) (by assumption) ?_
            rotate_left
            · (intro w hSw; (try dsimp only at hSw); go_simp); try with_reducible rfl
            try simp only [Act.put, List.getElem_toArray, List.getElem_cons_zero, List.getElem_cons_succ, List.setIfInBounds_toArray, List.set_cons_zero, List.set_cons_succ]
            refine wpAnyH_take (i := 4) (v := ?_) rfl (by kernel_rfl) (by kernel_rfl) (by kernel_rfl) (fun _ _ _ h => h) (Or.inl ⟨by rfl, ?_⟩) (by assumption) ?_
            rotate_left
            · (intro w hSw; (try dsimp only at hSw); go_simp); try with_reducible rfl
            try simp only [Act.put, List.getElem_toArray, List.getElem_cons_zero, List.getElem_cons_succ, List.setIfInBounds_toArray, List.set_cons_zero, List.set_cons_succ]
            refine wpAnyH_take (i := 5) (v := ?_) rfl (by kernel_rfl) (by kernel_rfl) (by kernel_rfl) (fun _ _ _ h => h) (Or.inl ⟨by rfl, ?_⟩) (by assumption) ?_
            rotate_left
            · (intro w hSw; (try dsimp only at hSw); go_simp); try with_reducible rfl
            try simp only [Act.put, List.getElem_toArray, List.getElem_cons_zero, List.getElem_cons_succ, List.setIfInBounds_toArray, List.set_cons_zero, List.set_cons_succ]
            refine wpAnyH_take (i := 6) (v := ?_) rfl (by kernel_rfl) (by kernel_rfl) (by kernel_rfl) (fun _ _ _ h => h) (Or.inl ⟨by rfl, ?_⟩) (by assumption) ?_
            rotate_left
            · (intro w hSw; (try dsimp only at hSw); go_simp); try with_reducible rfl
            try simp only [Act.put, List.getElem_toArray, List.getElem_cons_zero, List.getElem_cons_succ, List.setIfInBounds_toArray, List.set_cons_zero, List.set_cons_succ]
            refine wpAnyH_done (by kernel_rfl) ?_ _
            go_wp2
            go_roundw
            case rel => exact ⟨j + 1, S1, A4, c4, _, by omega, by go_num, rfl, rfl, by omega, hs2.out, HI2.out.up (Below.drew (Below.refl _ _))⟩
            case measure => simp [intOf]; omega
          · have hne : (x1, x2) ≠ (d1, d2) := by
              intro e
              simp at e
              rcases he with he | ⟨_, he⟩
              · exact he e.1
              · exact he e.2
            have hs2 := Lib.hid (show setL L (d1, d2) n false = (S1 ++ [((x1, x2), x3)]) ++ setL (L.drop (j + 1)) (d1, d2) n (fb || !lt) by rw [hs1.out, if_pos hne]; simp)
            have h2 : SetI w wc.drew N d1 d2 A4 c4 S1 := HI2.out.up (Below.drew (Below.refl _ _))
            obtain ⟨A5, c5, w5, q5, h5⟩ := h2.app ((x1, x2), x3) (by omega)
            have H5 := Lib.hid h5
            have Q5 := Lib.hid q5
            have e0 : wc.drew.cell? ⟨b0, o0 + j * 3, none⟩ = some (.int .i64 x1) := HC.out.1
            have e1 : wc.drew.cell? ⟨b0, o0 + j * 3 + 1, none⟩ = some (.int .i64 x2) := HC.out.2.1
            have e2 : wc.drew.cell? ⟨b0, o0 + j * 3 + 2, none⟩ = some (.int .i64 x3) := HC.out.2.2.1
            clear h5 q5 h2 hne
            rcases he with h1 | ⟨rfl, h2⟩
            · skip
              go_wp2_with fail
              refine wp_region_held_drew (S := (fun W => W.cell? ⟨b0, o0 + j * 3, none⟩ = some (.int .i64 x1) ∧ W.cell? ⟨b0, o0 + j * 3 + 1, none⟩ = some (.int .i64 x2) ∧ W.cell? ⟨N, 0, none⟩ = some (.int .i64 d1) ∧ W.cell? ⟨N, 1, none⟩ = some (.int .i64 d2))) (by kernel_rfl) ?_ (fun hHeld => ?_)
              · (try dsimp only); exact ⟨HC.out.1, HC.out.2.1, HC.out.2.2.2.1, HC.out.2.2.2.2⟩
              refine wpAnyH_take (i := 0) (v := ?_) rfl (by kernel_rfl) (by kernel_rfl) (by kernel_rfl) (fun _ _ _ h => h) (Or.inl ⟨by rfl, ?_⟩) (by assumption) ?_
              rotate_left
              · (intro w hSw; (try dsimp only at hSw); go_simp); try with_reducible rfl
              try simp only [Act.put, List.getElem_toArray, List.getElem_cons_zero, List.setIfInBounds_toArray, List.set_cons_zero, List.set_cons_succ]
              refine wpAnyH_take (i := 1) (v := ?_) rfl (by kernel_rfl) (by kernel_rfl) (by kernel_rfl) (fun _ _ _ h => h) (Or.inl ⟨by rfl, ?_⟩) (by assumption) ?_
              rotate_left
              · (intro w hSw; (try dsimp only at hSw); go_simp); try with_reducible rfl
              try simp only [Act.put, List.getElem_toArray, List.getElem_cons_zero, List.getElem_cons_succ, List.setIfInBounds_toArray, List.set_cons_zero, List.set_cons_succ]
              refine wpAnyH_take (i := 2) (v := ?_) rfl (by kernel_rfl) (by kernel_rfl) (by kernel_rfl) (fun _ _ _ h => h) (Or.inl ⟨by rfl, ?_⟩) (by assumption) ?_
              rotate_left
              · (intro w hSw; (try dsimp only at hSw); go_simp); try with_reducible rfl
              try simp only [Act.put, List.getElem_toArray, List.getElem_cons_zero, List.getElem_cons_succ, List.setIfInBounds_toArray, List.set_cons_zero, List.set_cons_succ]
              refine wpAnyH_take (i := 3) (v := ?_) rfl (by kernel_rfl) (by kernel_rfl) (by kernel_rfl) (fun _ _ _ h => h) (Or.inl ⟨by rfl, ?_⟩) (by assumption) ?_
              rotate_left
              · (intro w hSw; (try dsimp only at hSw); go_simp); try with_reducible rfl
              try simp only [Act.put, List.getElem_toArray, List.getElem_cons_zero, List.getElem_cons_succ, List.setIfInBounds_toArray, List.set_cons_zero, List.set_cons_succ]
              refine wpAnyH_take (i := 4) (v := ?_) rfl (by kernel_rfl) (by kernel_rfl) (by kernel_rfl) (fun _ _ _ h => h) (Or.inl ⟨by rfl, ?_⟩) (by assumption) ?_
              rotate_left
              · (intro w hSw; (try dsimp only at hSw); go_simp); try with_reducible rfl
              try simp only [Act.put, List.getElem_toArray, List.getElem_cons_zero, List.getElem_cons_succ, List.setIfInBounds_toArray, List.set_cons_zero, List.set_cons_succ]
              refine wpAnyH_take (i := 5) (v := ?_) rfl (by kernel_rfl) (by kernel_rfl) (by kernel_rfl) (fun _ _ _ h => h) (Or.inl ⟨by rfl, ?_⟩) (by assumption) ?_
              rotate_left
              · (intro w hSw; (try dsimp only at hSw); go_simp); try with_reducible rfl
              try simp only [Act.put, List.getElem_toArray, List.getElem_cons_zero, List.getElem_cons_succ, List.setIfInBounds_toArray, List.set_cons_zero, List.set_cons_succ]
              refine wpAnyH_take (i := 6) (v := ?_) rfl (by kernel_rfl) (by kernel_rfl) (by kernel_rfl) (fun _ _ _ h => h) (Or.inl ⟨by rfl, ?_⟩) (by assumption) ?_
              rotate_left
              · (intro w hSw; (try dsimp only at hSw); go_simp); try with_reducible rfl
              try simp only [Act.put, List.getElem_toArray, List.getElem_cons_zero, List.getElem_cons_succ, List.setIfInBounds_toArray, List.set_cons_zero, List.set_cons_succ]
              refine wpAnyH_done (by kernel_rfl) ?_ _
              go_wp2_with (at_builtin; refine wpList_want (by rfl) (fun K hK => wp_append_runs _ _ _ _ _ rfl _ _ rfl rfl _ _ Q5.out (hK _ _ ?_)))
              go_wp2
              go_roundw
              case rel => exact ⟨j + 1, S1 ++ [((x1, x2), x3)], A5, c5, _, by omega, by go_num, by simp, rfl, by simp; omega, hs2.out, H5.out⟩
              case measure => simp [intOf]; omega
            · skip
              go_wp2_with fail
              refine wp_region_held_drew (S := (fun W => W.cell? ⟨b0, o0 + j * 3, none⟩ = some (.int .i64 x1) ∧ W.cell? ⟨b0, o0 + j * 3 + 1, none⟩ = some (.int .i64 x2) ∧ W.cell? ⟨N, 0, none⟩ = some (.int .i64 x1) ∧ W.cell? ⟨N, 1, none⟩ = some (.int .i64 d2))) (by kernel_rfl) ?_ (fun hHeld => ?_)
              · (try dsimp only); exact ⟨HC.out.1, HC.out.2.1, HC.out.2.2.2.1, HC.out.2.2.2.2⟩
              refine wpAnyH_take (i := 0) (v := ?_) rfl (by kernel_rfl) (by kernel_rfl) (by kernel_rfl) (fun _ _ _ h => h) (Or.inl ⟨by rfl, ?_⟩) (by assumption) ?_
              rotate_left
              · (intro w hSw; (try dsimp only at hSw); go_simp); try with_reducible rfl
              try simp only [Act.put, List.getElem_toArray, List.getElem_cons_zero, List.setIfInBounds_toArray, List.set_cons_zero, List.set_cons_succ]
              refine wpAnyH_take (i := 1) (v := ?_) rfl (by kernel_rfl) (by kernel_rfl) (by kernel_rfl) (fun _ _ _ h => h) (Or.inl ⟨by rfl, ?_⟩) (by assumption) ?_
              rotate_left
              · (intro w hSw; (try dsimp only at hSw); go_simp); try with_reducible rfl
              try simp only [Act.put, List.getElem_toArray, List.getElem_cons_zero, List.getElem_cons_succ, List.setIfInBounds_toArray, List.set_cons_zero, List.set_cons_succ]
              refine wpAnyH_take (i := 2) (v := ?_) rfl (by kernel_rfl) (by kernel_rfl) (by kernel_rfl) (fun _ _ _ h => h) (Or.inl ⟨by rfl, ?_⟩) (by assumption) ?_
              rotate_left
              · (intro w hSw; (try dsimp only at hSw); go_simp); try with_reducible rfl
              try simp only [Act.put, List.getElem_toArray, List.getElem_cons_zero, List.getElem_cons_succ, List.setIfInBounds_toArray, List.set_cons_zero, List.set_cons_succ]
              refine wpAnyH_take (i := 3) (v := ?_) rfl (by kernel_rfl) (by kernel_rfl) (by kernel_rfl) (fun _ _ _ h => h) (Or.inl ⟨by rfl, ?_⟩) (by assumption) ?_
              rotate_left
              · (intro w hSw; (try dsimp only at hSw); go_simp); try with_reducible rfl
              try simp only [Act.put, List.getElem_toArray, List.getElem_cons_zero, List.getElem_cons_succ, List.setIfInBounds_toArray, List.set_cons_zero, List.set_cons_succ]
              refine wpAnyH_take (i := 4) (v := ?_) rfl (by kernel_rfl) (by kernel_rfl) (by kernel_rfl) (fun _ _ _ h => h) (Or.inl ⟨by rfl, ?_⟩) (by assumption) ?_
              rotate_left
              · (intro w hSw; (try dsimp only at hSw); go_simp); try with_reducible rfl
              try simp only [Act.put, List.getElem_toArray, List.getElem_cons_zero, List.getElem_cons_succ, List.setIfInBounds_toArray, List.set_cons_zero, List.set_cons_succ]
              refine wpAnyH_take (i := 5) (v := ?_) rfl (by kernel_rfl) (by kernel_rfl) (by kernel_rfl) (fun _ _ _ h => h) (Or.inl ⟨by rfl, ?_⟩) (by assumption) ?_
              rotate_left
              · (intro w hSw; (try dsimp only at hSw); go_simp); try with_reducible rfl
              try simp only [Act.put, List.getElem_toArray, List.getElem_cons_zero, List.getElem_cons_succ, List.setIfInBounds_toArray, List.set_cons_zero, List.set_cons_succ]
              refine wpAnyH_take (i := 6) (v := ?_) rfl (by kernel_rfl) (by kernel_rfl) (by kernel_rfl) (fun _ _ _ h => h) (Or.inl ⟨by rfl, ?_⟩) (by assumption) ?_
              rotate_left
              · (intro w hSw; (try dsimp only at hSw); go_simp); try with_reducible rfl
              try simp only [Act.put, List.getElem_toArray, List.getElem_cons_zero, List.getElem_cons_succ, List.setIfInBounds_toArray, List.set_cons_zero, List.set_cons_succ]
              refine wpAnyH_done (by kernel_rfl) ?_ _
              go_wp2_with (at_builtin; refine wpList_want (by rfl) (fun K hK => wp_append_runs _ _ _ _ _ rfl _ _ rfl rfl _ _ Q5.out (hK _ _ ?_)))
              go_wp2
              go_roundw
              case rel => exact ⟨j + 1, S1 ++ [((x1, x2), x3)], A5, c5, _, by omega, by go_num, by simp, rfl, by simp; omega, hs2.out, H5.out⟩
              case measure => simp [intOf]; omega
    · have hj' : j = m := by omega
      subst hj'
      have hs1 := Lib.hid (show setL L (d1, d2) n false = S ++ (if fb then [] else [((d1, d2), n)]) by
        rw [HS.out, List.drop_eq_nil_of_le (by have := HL.out; omega)]
        rfl)
      cases fb
      · obtain ⟨A4, c4, w4, q4, h4⟩ := HI.out.app ((d1, d2), n) (by omega)
        have HE := Lib.hid (show NewMs w (setL L (d1, d2) n false) (.returned (.slice A4 (S.length + 1) c4)) w4 from ⟨A4, c4, by rw [hs1.out]; simp, by rw [hs1.out, hN]; simpa using h4.1.base_le (by omega), by rw [hN]; exact h4.2.2⟩)
        have Q4 := Lib.hid q4
        have k0 : wr.cell? ⟨N, 0, none⟩ = some (.int .i64 d1) := by rw [HI.out.2.1.cell]; rfl
        have k1 : wr.cell? ⟨N, 1, none⟩ = some (.int .i64 d2) := by rw [HI.out.2.1.cell]; rfl
        clear h4 q4
        go_wp2_with (at_builtin; refine wpList_want (by rfl) (fun K hK => wp_append_runs _ _ _ _ _ rfl _ _ rfl rfl _ _ Q4.out (hK _ _ ?_)))
        go_wp2
        go_ret
        exact HE.out
      · have HE := Lib.hid (show NewMs w (setL L (d1, d2) n false) (.returned (.slice A3 S.length c3)) wr from ⟨A3, c3, by rw [hs1.out]; simp, by rw [hs1.out, hN]; simpa using HI.out.1.base_le (by omega), by rw [hN]; exact HI.out.2.2⟩)
        go_wp2
        go_ret
        exact HE.out
end Go.Proofs.Ytailbppddnegoaa
