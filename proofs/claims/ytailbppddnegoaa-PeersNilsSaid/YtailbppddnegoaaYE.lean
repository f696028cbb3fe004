/- Merged: Y18, Y19, Y20. -/
import Derived.Test.YtailbppddnegoaaYC
import Derived.Test.YtailbppddnegoaaDD
import Derived.Test.YtailbppddnegoaaYA
import Derived.Test.YtailbppddnegoaaYB
/- Layer 17 (vector): Check, and the document's. -/
namespace Go.Proofs.Ytailbppddnegoaa
open Go.RowKit
set_option linter.unusedVariables false
set_option maxRecDepth 100000
attribute [local go_sem ↓] Go.wp_at_zero Go.wp_at_succ

/-- Is an actor not ahead of the next one? -/
def badP : Option Ac → Ac → Bool
  | none, _ => false
  | some q, a => !aLt q a
/-- Why marks may not be; 0 where they may. -/
def chkG : Option Ac → List Dt → Int
  | _, [] => 0
  | p, x :: r => if rightD x = false then 4 else if badP p x.1 = true then 6 else chkG (some x.1) r
theorem chkG_cons (p : Option Ac) (x : Dt) (r : List Dt) : chkG p (x :: r) = if rightD x = false then 4 else if badP p x.1 = true then 6 else chkG (some x.1) r := by
  cases p <;> rfl
def chkE (L : List Dt) : Int := if 4096 < L.length then 3 else chkG none L
theorem chkG_vw {p : Option Ac} {L : List Dt} (h : chkG p L = 0) : (∀ x ∈ L, rightD x = true) ∧ Srt L ∧ ∀ a, p = some a → ∀ x ∈ L, aLt a x.1 = true := by
  induction L generalizing p with
  | nil => exact ⟨by simp, List.Pairwise.nil, by simp⟩
  | cons x r ih =>
    rw [chkG_cons] at h
    by_cases h1 : rightD x = false
    · rw [if_pos h1] at h; cases h
    · rw [if_neg h1] at h
      by_cases h2 : badP p x.1 = true
      · rw [if_pos h2] at h; cases h
      · rw [if_neg h2] at h
        obtain ⟨i1, i2, i3⟩ := ih h
        refine ⟨?_, List.pairwise_cons.2 ⟨fun y hy => i3 x.1 rfl y hy, i2⟩, ?_⟩
        · intro y hy
          rcases List.mem_cons.1 hy with rfl | hy
          · simpa using h1
          · exact i1 y hy
        · intro a ha y hy
          cases ha
          have h3 : aLt a x.1 = true := by simpa [badP] using h2
          rcases List.mem_cons.1 hy with rfl | hy
          · exact h3
          · exact aLt_trans h3 (i3 x.1 rfl y hy)
theorem chkE_vw {L : List Dt} (h : chkE L = 0) : Vw L ∧ L.length ≤ 4096 := by
  unfold chkE at h
  split at h
  · cases h
  · exact ⟨⟨(chkG_vw h).2.1, (chkG_vw h).1⟩, by omega⟩
theorem chkG_of {p : Option Ac} {L : List Dt} (h1 : ∀ x ∈ L, rightD x = true) (h2 : Srt L) (h3 : ∀ a, p = some a → ∀ x ∈ L, aLt a x.1 = true) : chkG p L = 0 := by
  induction L generalizing p with
  | nil => cases p <;> rfl
  | cons x r ih =>
    have hs := List.pairwise_cons.1 h2
    have e2 : badP p x.1 = false := by
      cases p with
      | none => rfl
      | some a => simp only [badP, h3 a rfl x (List.mem_cons_self ..), Bool.not_true]
    rw [chkG_cons, h1 x (List.mem_cons_self ..), e2, if_neg (by simp), if_neg (by simp)]
    exact ih (fun y hy => h1 y (List.mem_cons_of_mem _ hy)) hs.2 (fun a ha y hy => by cases ha; exact hs.1 y hy)
theorem Vw.chk {L : List Dt} (h : Vw L) (hl : L.length ≤ 4096) : chkE L = 0 := by
  unfold chkE
  rw [if_neg (by omega)]
  exact chkG_of h.2 h.1 (by simp)
def prevA (L : List Dt) (j : Nat) : Option Ac := if j = 0 then none else (L[j - 1]?).map (·.1)
theorem chk_step {L : List Dt} {j : Nat} {x : Dt} (hx : L[j]? = some x) : chkG (prevA L j) (L.drop j) = (if rightD x = false then 4 else if badP (prevA L j) x.1 = true then 6 else chkG (prevA L (j + 1)) (L.drop (j + 1))) := by
  obtain ⟨hi, he⟩ := List.getElem?_eq_some_iff.1 hx
  rw [List.drop_eq_getElem_cons hi, he]
  have : prevA L (j + 1) = some x.1 := by
    unfold prevA
    rw [if_neg (by omega), Nat.add_sub_cancel, hx]
    rfl
  rw [this, chkG_cons]
theorem cmp_aLt (a b : Ac) : decide (0 ≤ orI (cmpI a.1 b.1) (cmpI a.2 b.2)) = !aLt a b := by
  rw [Bool.eq_iff_iff]
  simp only [decide_eq_true_eq, Bool.not_eq_true', aLt, decide_eq_false_iff_not]
  unfold orI cmpI
  repeat' split
  all_goals omega
theorem prevA_of {L : List Dt} {j : Nat} {y : Dt} (hj : 0 < j) (hy : L[j - 1]? = some y) : prevA L j = some y.1 := by
  unfold prevA
  rw [if_neg (by omega), hy]
  rfl
set_option maxHeartbeats 2000000 in
theorem rcheck17_any (w : World) (A : Option Addr) (c : Nat) (L : List Dt) (hr : MsAt w A L) (hn : L.length ≤ 9223372036854775807) :
    Calls Try.prog 76 #[.slice A L.length c] w fun e w' => e = .returned (.int .i64 (chkE L)) ∧ Below w.heap.size w w' := by
  have CR := Lib.hid (fun d i s w => rright_any d i s w)
  have CA := Lib.hid (fun d i d' i' w => rahead_any d i d' i' w)
  have HR := Lib.hid hr
  by_cases hlong : 4096 < L.length
  · have hE : chkE L = 3 := by unfold chkE; rw [if_pos hlong]
    rw [hE]
    have B0 := Lib.hid (Below.refl w.heap.size w)
    clear hr hE
    generalize L.length = n at *
    go_enter Try.func76, Try.ntmps76
    go_wp2
    go_ret
    exact ⟨rfl, B0.out⟩
  · have hE : chkE L = chkG none L := by unfold chkE; rw [if_neg hlong]
    rw [hE]
    generalize hlen : L.length = n at *
    have HL := Lib.hid hlen
    have B0 := Lib.hid (Below.refl w.heap.size w)
    generalize hN : w.heap.size = N at *
    unfold dotV at CR
    unfold actV at CA
    have hn4 : n ≤ 4096 := by omega
    clear hr hE hlen hlong
    go_enter Try.func76, Try.ntmps76
    go_wp2_with fail
    go_loopw [3] (fun i wr => ∃ (j : Nat), j ≤ n ∧ i = .int .i64 j ∧ chkG none L = chkG (prevA L j) (L.drop j) ∧ Below N w wr) (fun i _ => n - (intOf i).toNat)
    case atStart => exact ⟨0, by omega, rfl, rfl, B0.out⟩
    case round =>
      obtain ⟨j, hj, rfl, hchk, hb⟩ := hrel
      have HM := Lib.hid (And.intro hchk hb)
      clear hchk hb B0
      by_cases hlt : j < n
      · obtain ⟨x, hx⟩ : ∃ x, L[j]? = some x := ⟨L[j]'(by have := HL.out; omega), List.getElem?_eq_getElem _⟩
        obtain ⟨b0, o0, hA, hb0, k0, k1, k2⟩ := (Ds.below (hN ▸ HR.out : Ds w N A L) HM.out.2).at_ hx
        have hst := Lib.hid (HM.out.1.trans (chk_step hx))
        have hNr : N ≤ wr.heap.size := by have := HM.out.2.size; omega
        have HX := Lib.hid hx
        obtain ⟨⟨d, i⟩, s⟩ := x
        have hrd : dotB d i s = rightD ((d, i), s) := rfl
        have CX := Lib.hid (fun w => CR.out d i s w)
        rw [hrd] at CX
        have HK := Lib.hid (And.intro k0 (And.intro k1 k2))
        clear hx k0 k1 k2 hrd
        subst hA
        cases hr : rightD ((d, i), s)
        · rw [hr] at CX
          have hE := Lib.hid (show chkG none L = 4 by rw [hst.out, hr]; rfl)
          clear hr
          go_wp2_with fail
          refine wp_region_held_drew (S := (fun W => W.cell? ⟨b0, o0 + j * 3, none⟩ = some (.int .i64 d) ∧ W.cell? ⟨b0, o0 + j * 3 + 1, none⟩ = some (.int .i64 i) ∧ W.cell? ⟨b0, o0 + j * 3 + 2, none⟩ = some (.int .i64 s))) (by kernel_rfl) ?_ (fun hHeld => ?_)
          · (try dsimp only); exact HK.out
          refine wpAnyH_take (i := 0) (v := ?_) rfl (by kernel_rfl) (by kernel_rfl) (by kernel_rfl) (fun _ _ _ h => h) (Or.inl ⟨by rfl, ?_⟩) (by assumption) ?_
          rotate_left
          first | (focus ((intro w hSw; (try dsimp only at hSw); go_simp); (try with_reducible rfl); done)) | fail
          try simp only [Act.put, List.getElem_toArray, List.getElem_cons_zero, List.setIfInBounds_toArray, List.set_cons_zero, List.set_cons_succ]
          refine wpAnyH_take (i := 1) (v := ?_) rfl (by kernel_rfl) (by kernel_rfl) (by kernel_rfl) (fun _ _ _ h => h) (Or.inl ⟨by rfl, ?_⟩) (by assumption) ?_
          rotate_left
          first | (focus ((intro w hSw; (try dsimp only at hSw); go_simp); (try with_reducible rfl); done)) | fail
          try simp only [Act.put, List.getElem_toArray, List.getElem_cons_zero, List.getElem_cons_succ, List.setIfInBounds_toArray, List.set_cons_zero, List.set_cons_succ]
          refine wpAnyH_take (i := 2) (v := ?_) rfl (by kernel_rfl) (by kernel_rfl) (by kernel_rfl) (fun _ _ _ h => h) (Or.inl ⟨by rfl, ?_⟩) (by assumption) ?_
          rotate_left
          first | (focus ((intro w hSw; (try dsimp only at hSw); go_simp); (try with_reducible rfl); done)) | fail
          try simp only [Act.put, List.getElem_toArray, List.getElem_cons_zero, List.getElem_cons_succ, List.setIfInBounds_toArray, List.set_cons_zero, List.set_cons_succ]
          refine wpAnyH_take (i := 3) (v := ?_) rfl (by kernel_rfl) (by kernel_rfl) (by kernel_rfl) (fun _ _ _ h => h) (Or.inl ⟨by rfl, ?_⟩) (by assumption) ?_
          rotate_left
          first | (focus ((intro w hSw; (try dsimp only at hSw); go_simp); (try with_reducible rfl); done)) | fail
          try simp only [Act.put, List.getElem_toArray, List.getElem_cons_zero, List.getElem_cons_succ, List.setIfInBounds_toArray, List.set_cons_zero, List.set_cons_succ]
          refine wpAnyH_take (i := 4) (v := ?_) rfl (by kernel_rfl) (by kernel_rfl) (by kernel_rfl) (fun _ _ _ h => h) (Or.inl ⟨by rfl, ?_⟩) (by assumption) ?_
          rotate_left
          first | (focus ((intro w hSw; (try dsimp only at hSw); go_simp); (try with_reducible rfl); done)) | fail
          try simp only [Act.put, List.getElem_toArray, List.getElem_cons_zero, List.getElem_cons_succ, List.setIfInBounds_toArray, List.set_cons_zero, List.set_cons_succ]
          refine wpAnyH_take (i := 5) (v := ?_) rfl (by kernel_rfl) (by kernel_rfl) (by kernel_rfl) (fun _ _ _ h => h) (Or.inl ⟨by rfl, ?_⟩) (by assumption) ?_
          rotate_left
          first | (focus ((intro w hSw; (try dsimp only at hSw); go_simp); (try with_reducible rfl); done)) | fail
          try simp only [Act.put, List.getElem_toArray, List.getElem_cons_zero, List.getElem_cons_succ, List.setIfInBounds_toArray, List.set_cons_zero, List.set_cons_succ]
          refine wpAnyH_take (i := 6) (v := ?_) rfl (by kernel_rfl) (by kernel_rfl) (by kernel_rfl) (fun _ _ _ h => h) (Or.inl ⟨by rfl, ?_⟩) (by assumption) ?_
          rotate_left
          first | (focus ((intro w hSw; (try dsimp only at hSw); go_simp); (try with_reducible rfl); done)) | fail
          try simp only [Act.put, List.getElem_toArray, List.getElem_cons_zero, List.getElem_cons_succ, List.setIfInBounds_toArray, List.set_cons_zero, List.set_cons_succ]
          refine wpAnyH_take (i := 7) (v := ?_) rfl (by kernel_rfl) (by kernel_rfl) (by kernel_rfl) (fun _ _ _ h => h) (Or.inl ⟨by rfl, ?_⟩) (by assumption) ?_
          rotate_left
          first | (focus ((intro w hSw; (try dsimp only at hSw); go_simp); (try with_reducible rfl); done)) | fail
          try simp only [Act.put, List.getElem_toArray, List.getElem_cons_zero, List.getElem_cons_succ, List.setIfInBounds_toArray, List.set_cons_zero, List.set_cons_succ]
          refine wpAnyH_take (i := 8) (v := ?_) rfl (by kernel_rfl) (by kernel_rfl) (by kernel_rfl) (fun _ _ _ h => h) (Or.inl ⟨by rfl, ?_⟩) (by assumption) ?_
          rotate_left
          first | (focus ((intro w hSw; (try dsimp only at hSw); go_simp); (try with_reducible rfl); done)) | fail
          try simp only [Act.put, List.getElem_toArray, List.getElem_cons_zero, List.getElem_cons_succ, List.setIfInBounds_toArray, List.set_cons_zero, List.set_cons_succ]
          refine wpAnyH_take (i := 9) (v := ?_) rfl (by kernel_rfl) (by kernel_rfl) (by kernel_rfl) (fun _ _ _ h => h) (Or.inl ⟨by rfl, ?_⟩) (by assumption) ?_
          rotate_left
          first | (focus ((intro w hSw; (try dsimp only at hSw); go_simp); (try with_reducible rfl); done)) | fail
          try simp only [Act.put, List.getElem_toArray, List.getElem_cons_zero, List.getElem_cons_succ, List.setIfInBounds_toArray, List.set_cons_zero, List.set_cons_succ]
          refine wpAnyH_take (i := 10) (v := ?_) rfl (by kernel_rfl) (by kernel_rfl) (by kernel_rfl) (fun _ _ _ h => h) (Or.inl ⟨by rfl, ?_⟩) (by assumption) ?_
          rotate_left
          first | (focus ((intro w hSw; (try dsimp only at hSw); go_simp); (try with_reducible rfl); done)) | fail
          try simp only [Act.put, List.getElem_toArray, List.getElem_cons_zero, List.getElem_cons_succ, List.setIfInBounds_toArray, List.set_cons_zero, List.set_cons_succ]
          refine wpAnyH_ready (rs := [11]) (by kernel_rfl) (by simp) ?_
          refine AllReadyH.cons rfl (fun K hK => ?_) AllReadyH.nil
          go_simp
          refine (CX.out _).mono ?_; rintro e w5 ⟨rfl, b5⟩
          go_wp2_with fail
          refine hK.out _ _ ?_ (fun hHeld => ?_)
          · (try dsimp only); exact ⟨(b5.cell (by show b0 < wr.heap.size; omega)).trans hHeld.1, (b5.cell (by show b0 < wr.heap.size; omega)).trans hHeld.2.1, (b5.cell (by show b0 < wr.heap.size; omega)).trans hHeld.2.2⟩
          clear hK K
          try simp only [Act.put, List.getElem_toArray, List.getElem_cons_zero, List.getElem_cons_succ, List.setIfInBounds_toArray, List.set_cons_zero, List.set_cons_succ]
          refine wpAnyH_take (i := 12) (v := ?_) rfl (by kernel_rfl) (by kernel_rfl) (by kernel_rfl) (fun _ _ _ h => h) (Or.inl ⟨by rfl, ?_⟩) (by assumption) ?_
          rotate_left
          first | (focus ((intro w hSw; (try dsimp only at hSw); go_simp); (try with_reducible rfl); done)) | fail
          try simp only [Act.put, List.getElem_toArray, List.getElem_cons_zero, List.getElem_cons_succ, List.setIfInBounds_toArray, List.set_cons_zero, List.set_cons_succ]
          refine wpAnyH_done (by kernel_rfl) ?_ _
          have HB := Lib.hid (HM.out.2.drew.trans (below_of_le b5 (show N ≤ wr.heap.size by omega)))
          clear b5
          go_wp2
          go_ret
          exact ⟨ret_int hE.out.symm, HB.out⟩
        · rw [hr] at CX
          have hst2 := Lib.hid (show chkG none L = if badP (prevA L j) (d, i) = true then 6 else chkG (prevA L (j + 1)) (L.drop (j + 1)) by rw [hst.out, hr]; rfl)
          clear hr
          go_wp2_with fail
          refine wp_region_held_drew (S := (fun W => W.cell? ⟨b0, o0 + j * 3, none⟩ = some (.int .i64 d) ∧ W.cell? ⟨b0, o0 + j * 3 + 1, none⟩ = some (.int .i64 i) ∧ W.cell? ⟨b0, o0 + j * 3 + 2, none⟩ = some (.int .i64 s))) (by kernel_rfl) ?_ (fun hHeld => ?_)
          · (try dsimp only); exact HK.out
          refine wpAnyH_take (i := 0) (v := ?_) rfl (by kernel_rfl) (by kernel_rfl) (by kernel_rfl) (fun _ _ _ h => h) (Or.inl ⟨by rfl, ?_⟩) (by assumption) ?_
          rotate_left
          first | (focus ((intro w hSw; (try dsimp only at hSw); go_simp); (try with_reducible rfl); done)) | fail
          try simp only [Act.put, List.getElem_toArray, List.getElem_cons_zero, List.setIfInBounds_toArray, List.set_cons_zero, List.set_cons_succ]
          refine wpAnyH_take (i := 1) (v := ?_) rfl (by kernel_rfl) (by kernel_rfl) (by kernel_rfl) (fun _ _ _ h => h) (Or.inl ⟨by rfl, ?_⟩) (by assumption) ?_
          rotate_left
          first | (focus ((intro w hSw; (try dsimp only at hSw); go_simp); (try with_reducible rfl); done)) | fail
          try simp only [Act.put, List.getElem_toArray, List.getElem_cons_zero, List.getElem_cons_succ, List.setIfInBounds_toArray, List.set_cons_zero, List.set_cons_succ]
          refine wpAnyH_take (i := 2) (v := ?_) rfl (by kernel_rfl) (by kernel_rfl) (by kernel_rfl) (fun _ _ _ h => h) (Or.inl ⟨by rfl, ?_⟩) (by assumption) ?_
          rotate_left
          first | (focus ((intro w hSw; (try dsimp only at hSw); go_simp); (try with_reducible rfl); done)) | fail
          try simp only [Act.put, List.getElem_toArray, List.getElem_cons_zero, List.getElem_cons_succ, List.setIfInBounds_toArray, List.set_cons_zero, List.set_cons_succ]
          refine wpAnyH_take (i := 3) (v := ?_) rfl (by kernel_rfl) (by kernel_rfl) (by kernel_rfl) (fun _ _ _ h => h) (Or.inl ⟨by rfl, ?_⟩) (by assumption) ?_
          rotate_left
          first | (focus ((intro w hSw; (try dsimp only at hSw); go_simp); (try with_reducible rfl); done)) | fail
          try simp only [Act.put, List.getElem_toArray, List.getElem_cons_zero, List.getElem_cons_succ, List.setIfInBounds_toArray, List.set_cons_zero, List.set_cons_succ]
          refine wpAnyH_take (i := 4) (v := ?_) rfl (by kernel_rfl) (by kernel_rfl) (by kernel_rfl) (fun _ _ _ h => h) (Or.inl ⟨by rfl, ?_⟩) (by assumption) ?_
          rotate_left
          first | (focus ((intro w hSw; (try dsimp only at hSw); go_simp); (try with_reducible rfl); done)) | fail
          try simp only [Act.put, List.getElem_toArray, List.getElem_cons_zero, List.getElem_cons_succ, List.setIfInBounds_toArray, List.set_cons_zero, List.set_cons_succ]
          refine wpAnyH_take (i := 5) (v := ?_) rfl (by kernel_rfl) (by kernel_rfl) (by kernel_rfl) (fun _ _ _ h => h) (Or.inl ⟨by rfl, ?_⟩) (by assumption) ?_
          rotate_left
          first | (focus ((intro w hSw; (try dsimp only at hSw); go_simp); (try with_reducible rfl); done)) | fail
          try simp only [Act.put, List.getElem_toArray, List.getElem_cons_zero, List.getElem_cons_succ, List.setIfInBounds_toArray, List.set_cons_zero, List.set_cons_succ]
          refine wpAnyH_take (i := 6) (v := ?_) rfl (by kernel_rfl) (by kernel_rfl) (by kernel_rfl) (fun _ _ _ h => h) (Or.inl ⟨by rfl, ?_⟩) (by assumption) ?_
          rotate_left
          first | (focus ((intro w hSw; (try dsimp only at hSw); go_simp); (try with_reducible rfl); done)) | fail
          try simp only [Act.put, List.getElem_toArray, List.getElem_cons_zero, List.getElem_cons_succ, List.setIfInBounds_toArray, List.set_cons_zero, List.set_cons_succ]
          refine wpAnyH_take (i := 7) (v := ?_) rfl (by kernel_rfl) (by kernel_rfl) (by kernel_rfl) (fun _ _ _ h => h) (Or.inl ⟨by rfl, ?_⟩) (by assumption) ?_
          rotate_left
          first | (focus ((intro w hSw; (try dsimp only at hSw); go_simp); (try with_reducible rfl); done)) | fail
          try simp only [Act.put, List.getElem_toArray, List.getElem_cons_zero, List.getElem_cons_succ, List.setIfInBounds_toArray, List.set_cons_zero, List.set_cons_succ]
          refine wpAnyH_take (i := 8) (v := ?_) rfl (by kernel_rfl) (by kernel_rfl) (by kernel_rfl) (fun _ _ _ h => h) (Or.inl ⟨by rfl, ?_⟩) (by assumption) ?_
          rotate_left
          first | (focus ((intro w hSw; (try dsimp only at hSw); go_simp); (try with_reducible rfl); done)) | fail
          try simp only [Act.put, List.getElem_toArray, List.getElem_cons_zero, List.getElem_cons_succ, List.setIfInBounds_toArray, List.set_cons_zero, List.set_cons_succ]
          refine wpAnyH_take (i := 9) (v := ?_) rfl (by kernel_rfl) (by kernel_rfl) (by kernel_rfl) (fun _ _ _ h => h) (Or.inl ⟨by rfl, ?_⟩) (by assumption) ?_
          rotate_left
          first | (focus ((intro w hSw; (try dsimp only at hSw); go_simp); (try with_reducible rfl); done)) | fail
          try simp only [Act.put, List.getElem_toArray, List.getElem_cons_zero, List.getElem_cons_succ, List.setIfInBounds_toArray, List.set_cons_zero, List.set_cons_succ]
          refine wpAnyH_take (i := 10) (v := ?_) rfl (by kernel_rfl) (by kernel_rfl) (by kernel_rfl) (fun _ _ _ h => h) (Or.inl ⟨by rfl, ?_⟩) (by assumption) ?_
          rotate_left
          first | (focus ((intro w hSw; (try dsimp only at hSw); go_simp); (try with_reducible rfl); done)) | fail
          try simp only [Act.put, List.getElem_toArray, List.getElem_cons_zero, List.getElem_cons_succ, List.setIfInBounds_toArray, List.set_cons_zero, List.set_cons_succ]
          refine wpAnyH_ready (rs := [11]) (by kernel_rfl) (by simp) ?_
          refine AllReadyH.cons rfl (fun K hK => ?_) AllReadyH.nil
          go_simp
          refine (CX.out _).mono ?_; rintro e w5 ⟨rfl, b5⟩
          go_wp2_with fail
          refine hK.out _ _ ?_ (fun hHeld => ?_)
          · (try dsimp only); exact ⟨(b5.cell (by show b0 < wr.heap.size; omega)).trans hHeld.1, (b5.cell (by show b0 < wr.heap.size; omega)).trans hHeld.2.1, (b5.cell (by show b0 < wr.heap.size; omega)).trans hHeld.2.2⟩
          clear hK K
          try simp only [Act.put, List.getElem_toArray, List.getElem_cons_zero, List.getElem_cons_succ, List.setIfInBounds_toArray, List.set_cons_zero, List.set_cons_succ]
          refine wpAnyH_take (i := 12) (v := ?_) rfl (by kernel_rfl) (by kernel_rfl) (by kernel_rfl) (fun _ _ _ h => h) (Or.inl ⟨by rfl, ?_⟩) (by assumption) ?_
          rotate_left
          first | (focus ((intro w hSw; (try dsimp only at hSw); go_simp); (try with_reducible rfl); done)) | fail
          try simp only [Act.put, List.getElem_toArray, List.getElem_cons_zero, List.getElem_cons_succ, List.setIfInBounds_toArray, List.set_cons_zero, List.set_cons_succ]
          refine wpAnyH_done (by kernel_rfl) ?_ _
          have HB := Lib.hid (HM.out.2.drew.trans (below_of_le b5 (show N ≤ wr.heap.size by omega)))
          have HK5 := Lib.hid hHeld
          have hN5 : N ≤ w5.heap.size := by have := HB.out.size; omega
          clear b5 hHeld
          by_cases hj0 : j = 0
          · subst hj0
            have hnx := Lib.hid (show chkG none L = chkG (prevA L (0 + 1)) (L.drop (0 + 1)) by rw [hst2.out]; rfl)
            go_wp2_with fail
            refine wp_region_held_drew (S := (fun _ => True)) (by kernel_rfl) ?_ (fun hHeld => ?_)
            · (try dsimp only); try trivial
            refine wpAnyH_take (i := 0) (v := ?_) rfl (by kernel_rfl) (by kernel_rfl) (by kernel_rfl) (fun _ _ _ h => h) (Or.inl ⟨by rfl, ?_⟩) (by assumption) ?_
            rotate_left
            first | (focus ((intro w hSw; (try dsimp only at hSw); go_simp); (try with_reducible rfl); done)) | fail
            try simp only [Act.put, List.getElem_toArray, List.getElem_cons_zero, List.setIfInBounds_toArray, List.set_cons_zero, List.set_cons_succ]
            refine wpAnyH_take (i := 1) (v := ?_) rfl (by kernel_rfl) (by kernel_rfl) (by kernel_rfl) (fun _ _ _ h => h) (Or.inl ⟨by rfl, ?_⟩) (by assumption) ?_
            rotate_left
            first | (focus ((intro w hSw; (try dsimp only at hSw); go_simp); (try with_reducible rfl); done)) | fail
            try simp only [Act.put, List.getElem_toArray, List.getElem_cons_zero, List.getElem_cons_succ, List.setIfInBounds_toArray, List.set_cons_zero, List.set_cons_succ]
            refine wpAnyH_take (i := 2) (v := ?_) rfl (by kernel_rfl) (by kernel_rfl) (by kernel_rfl) (fun _ _ _ h => h) (Or.inl ⟨by rfl, ?_⟩) (by assumption) ?_
            rotate_left
            first | (focus ((intro w hSw; (try dsimp only at hSw); go_simp); (try with_reducible rfl); done)) | fail
            try simp only [Act.put, List.getElem_toArray, List.getElem_cons_zero, List.getElem_cons_succ, List.setIfInBounds_toArray, List.set_cons_zero, List.set_cons_succ]
            refine wpAnyH_take (i := 3) (v := undef) rfl (by kernel_rfl) (by kernel_rfl) (by kernel_rfl) (fun _ _ _ h => h) (Or.inr ⟨by rfl, rfl⟩) (by assumption) ?_
            try simp only [Act.put, List.getElem_toArray, List.getElem_cons_zero, List.getElem_cons_succ, List.setIfInBounds_toArray, List.set_cons_zero, List.set_cons_succ]
            refine wpAnyH_take (i := 4) (v := undef) rfl (by kernel_rfl) (by kernel_rfl) (by kernel_rfl) (fun _ _ _ h => h) (Or.inr ⟨by rfl, rfl⟩) (by assumption) ?_
            try simp only [Act.put, List.getElem_toArray, List.getElem_cons_zero, List.getElem_cons_succ, List.setIfInBounds_toArray, List.set_cons_zero, List.set_cons_succ]
            refine wpAnyH_take (i := 5) (v := undef) rfl (by kernel_rfl) (by kernel_rfl) (by kernel_rfl) (fun _ _ _ h => h) (Or.inr ⟨by rfl, rfl⟩) (by assumption) ?_
            try simp only [Act.put, List.getElem_toArray, List.getElem_cons_zero, List.getElem_cons_succ, List.setIfInBounds_toArray, List.set_cons_zero, List.set_cons_succ]
            refine wpAnyH_take (i := 6) (v := undef) rfl (by kernel_rfl) (by kernel_rfl) (by kernel_rfl) (fun _ _ _ h => h) (Or.inr ⟨by rfl, rfl⟩) (by assumption) ?_
            try simp only [Act.put, List.getElem_toArray, List.getElem_cons_zero, List.getElem_cons_succ, List.setIfInBounds_toArray, List.set_cons_zero, List.set_cons_succ]
            refine wpAnyH_take (i := 7) (v := undef) rfl (by kernel_rfl) (by kernel_rfl) (by kernel_rfl) (fun _ _ _ h => h) (Or.inr ⟨by rfl, rfl⟩) (by assumption) ?_
            try simp only [Act.put, List.getElem_toArray, List.getElem_cons_zero, List.getElem_cons_succ, List.setIfInBounds_toArray, List.set_cons_zero, List.set_cons_succ]
            refine wpAnyH_take (i := 8) (v := undef) rfl (by kernel_rfl) (by kernel_rfl) (by kernel_rfl) (fun _ _ _ h => h) (Or.inr ⟨by rfl, rfl⟩) (by assumption) ?_
            try simp only [Act.put, List.getElem_toArray, List.getElem_cons_zero, List.getElem_cons_succ, List.setIfInBounds_toArray, List.set_cons_zero, List.set_cons_succ]
            refine wpAnyH_take (i := 9) (v := undef) rfl (by kernel_rfl) (by kernel_rfl) (by kernel_rfl) (fun _ _ _ h => h) (Or.inr ⟨by rfl, rfl⟩) (by assumption) ?_
            try simp only [Act.put, List.getElem_toArray, List.getElem_cons_zero, List.getElem_cons_succ, List.setIfInBounds_toArray, List.set_cons_zero, List.set_cons_succ]
            refine wpAnyH_take (i := 10) (v := undef) rfl (by kernel_rfl) (by kernel_rfl) (by kernel_rfl) (fun _ _ _ h => h) (Or.inr ⟨by rfl, rfl⟩) (by assumption) ?_
            try simp only [Act.put, List.getElem_toArray, List.getElem_cons_zero, List.getElem_cons_succ, List.setIfInBounds_toArray, List.set_cons_zero, List.set_cons_succ]
            refine wpAnyH_take (i := 11) (v := undef) rfl (by kernel_rfl) (by kernel_rfl) (by kernel_rfl) (fun _ _ _ h => h) (Or.inr ⟨by rfl, rfl⟩) (by assumption) ?_
            try simp only [Act.put, List.getElem_toArray, List.getElem_cons_zero, List.getElem_cons_succ, List.setIfInBounds_toArray, List.set_cons_zero, List.set_cons_succ]
            refine wpAnyH_take (i := 12) (v := undef) rfl (by kernel_rfl) (by kernel_rfl) (by kernel_rfl) (fun _ _ _ h => h) (Or.inr ⟨by rfl, rfl⟩) (by assumption) ?_
            try simp only [Act.put, List.getElem_toArray, List.getElem_cons_zero, List.getElem_cons_succ, List.setIfInBounds_toArray, List.set_cons_zero, List.set_cons_succ]
            refine wpAnyH_take (i := 13) (v := undef) rfl (by kernel_rfl) (by kernel_rfl) (by kernel_rfl) (fun _ _ _ h => h) (Or.inr ⟨by rfl, rfl⟩) (by assumption) ?_
            try simp only [Act.put, List.getElem_toArray, List.getElem_cons_zero, List.getElem_cons_succ, List.setIfInBounds_toArray, List.set_cons_zero, List.set_cons_succ]
            refine wpAnyH_take (i := 14) (v := undef) rfl (by kernel_rfl) (by kernel_rfl) (by kernel_rfl) (fun _ _ _ h => h) (Or.inr ⟨by rfl, rfl⟩) (by assumption) ?_
            try simp only [Act.put, List.getElem_toArray, List.getElem_cons_zero, List.getElem_cons_succ, List.setIfInBounds_toArray, List.set_cons_zero, List.set_cons_succ]
            refine wpAnyH_take (i := 15) (v := undef) rfl (by kernel_rfl) (by kernel_rfl) (by kernel_rfl) (fun _ _ _ h => h) (Or.inr ⟨by rfl, rfl⟩) (by assumption) ?_
            try simp only [Act.put, List.getElem_toArray, List.getElem_cons_zero, List.getElem_cons_succ, List.setIfInBounds_toArray, List.set_cons_zero, List.set_cons_succ]
            refine wpAnyH_take (i := 16) (v := ?_) rfl (by kernel_rfl) (by kernel_rfl) (by kernel_rfl) (fun _ _ _ h => h) (Or.inl ⟨by rfl, ?_⟩) (by assumption) ?_
            rotate_left
            first | (focus ((intro w hSw; (try dsimp only at hSw); go_simp); (try with_reducible rfl); done)) | fail
            try simp only [Act.put, List.getElem_toArray, List.getElem_cons_zero, List.getElem_cons_succ, List.setIfInBounds_toArray, List.set_cons_zero, List.set_cons_succ]
            refine wpAnyH_done (by kernel_rfl) ?_ _
            go_wp2
            go_roundw
            case rel => exact ⟨0 + 1, by omega, by go_num, hnx.out, HB.out.drew⟩
            case measure => simp [intOf]; omega
          · obtain ⟨y, hy⟩ : ∃ y, L[j - 1]? = some y := ⟨L[j - 1]'(by have := HL.out; omega), List.getElem?_eq_getElem _⟩
            obtain ⟨b1, o1, hA1, hb1, l0, l1, l2⟩ := (Ds.below (hN ▸ HR.out : Ds w N (some ⟨b0, o0, none⟩) L) HB.out).at_ hy
            cases hA1
            obtain ⟨⟨y1, y2⟩, y3⟩ := y
            have hpa := prevA_of (by omega) hy
            have hbp : badP (prevA L j) (d, i) = !aLt (y1, y2) (d, i) := by rw [hpa]; rfl
            have hal : aheadB y1 y2 d i = aLt (y1, y2) (d, i) := by
              rw [Bool.eq_iff_iff]
              unfold aheadB aLt
              split <;> (simp only [decide_eq_true_eq]; omega)
            have CY := Lib.hid (fun w => CA.out y1 y2 d i w)
            rw [hal] at CY
            have hst3 := Lib.hid (show chkG none L = if (!aLt (y1, y2) (d, i)) = true then 6 else chkG (prevA L (j + 1)) (L.drop (j + 1)) by rw [hst2.out, hbp])
            generalize aLt (y1, y2) (d, i) = lt at *
            have HL5 := Lib.hid (And.intro l0 l1)
            obtain ⟨j', rfl⟩ : ∃ j', j = j' + 1 := ⟨j - 1, by omega⟩
            rw [Nat.add_sub_cancel] at HL5
            have hw1 : IntKind.i64.wrap (j' : Int) = (j' : Int) := by rw [IntKind.wrap_i64]; omega
            have hj1 : (0 : Int) ≤ (j' : Int) := by omega
            have hj2 : (j' : Int) < (n : Int) := by omega
            have hj3 : (0 : Int) ≤ (j' : Int) + 1 := by omega
            have hj4 : (j' : Int) + 1 < (n : Int) := by omega
            clear hy l0 l1 l2 hpa hbp hal
            go_wp2_with fail
            refine wp_region_held_drew (S := (fun W => W.cell? ⟨b0, o0 + (j' + 1) * 3, none⟩ = some (.int .i64 d) ∧ W.cell? ⟨b0, o0 + (j' + 1) * 3 + 1, none⟩ = some (.int .i64 i) ∧ W.cell? ⟨b0, o0 + j' * 3, none⟩ = some (.int .i64 y1) ∧ W.cell? ⟨b0, o0 + j' * 3 + 1, none⟩ = some (.int .i64 y2))) (by kernel_rfl) ?_ (fun hHeld => ?_)
            · (try dsimp only); exact ⟨HK5.out.1, HK5.out.2.1, HL5.out.1, HL5.out.2⟩
            refine wpAnyH_take (i := 0) (v := ?_) rfl (by kernel_rfl) (by kernel_rfl) (by kernel_rfl) (fun _ _ _ h => h) (Or.inl ⟨by rfl, ?_⟩) (by assumption) ?_
            rotate_left
            first | (focus ((intro w hSw; (try dsimp only at hSw); go_simp); (try with_reducible rfl); done)) | fail
            try simp only [Act.put, List.getElem_toArray, List.getElem_cons_zero, List.setIfInBounds_toArray, List.set_cons_zero, List.set_cons_succ]
            refine wpAnyH_take (i := 1) (v := ?_) rfl (by kernel_rfl) (by kernel_rfl) (by kernel_rfl) (fun _ _ _ h => h) (Or.inl ⟨by rfl, ?_⟩) (by assumption) ?_
            rotate_left
            first | (focus ((intro w hSw; (try dsimp only at hSw); go_simp); (try with_reducible rfl); done)) | fail
            try simp only [Act.put, List.getElem_toArray, List.getElem_cons_zero, List.getElem_cons_succ, List.setIfInBounds_toArray, List.set_cons_zero, List.set_cons_succ]
            refine wpAnyH_take (i := 2) (v := ?_) rfl (by kernel_rfl) (by kernel_rfl) (by kernel_rfl) (fun _ _ _ h => h) (Or.inl ⟨by rfl, ?_⟩) (by assumption) ?_
            rotate_left
            first | (focus ((intro w hSw; (try dsimp only at hSw); go_simp); (try with_reducible rfl); done)) | fail
            try simp only [Act.put, List.getElem_toArray, List.getElem_cons_zero, List.getElem_cons_succ, List.setIfInBounds_toArray, List.set_cons_zero, List.set_cons_succ]
            refine wpAnyH_take (i := 3) (v := ?_) rfl (by kernel_rfl) (by kernel_rfl) (by kernel_rfl) (fun _ _ _ h => h) (Or.inl ⟨by rfl, ?_⟩) (by assumption) ?_
            rotate_left
            first | (focus ((intro w hSw; (try dsimp only at hSw); go_simp); (try with_reducible rfl); done)) | fail
            try simp only [Act.put, List.getElem_toArray, List.getElem_cons_zero, List.getElem_cons_succ, List.setIfInBounds_toArray, List.set_cons_zero, List.set_cons_succ]
            refine wpAnyH_take (i := 4) (v := ?_) rfl (by kernel_rfl) (by kernel_rfl) (by kernel_rfl) (fun _ _ _ h => h) (Or.inl ⟨by rfl, ?_⟩) (by assumption) ?_
            rotate_left
            first | (focus ((intro w hSw; (try dsimp only at hSw); go_simp); (try with_reducible rfl); done)) | fail
            try simp only [Act.put, List.getElem_toArray, List.getElem_cons_zero, List.getElem_cons_succ, List.setIfInBounds_toArray, List.set_cons_zero, List.set_cons_succ]
            refine wpAnyH_take (i := 5) (v := ?_) rfl (by kernel_rfl) (by kernel_rfl) (by kernel_rfl) (fun _ _ _ h => h) (Or.inl ⟨by rfl, ?_⟩) (by assumption) ?_
            rotate_left
            first | (focus ((intro w hSw; (try dsimp only at hSw); go_simp); (try with_reducible rfl); done)) | fail
            try simp only [Act.put, List.getElem_toArray, List.getElem_cons_zero, List.getElem_cons_succ, List.setIfInBounds_toArray, List.set_cons_zero, List.set_cons_succ]
            refine wpAnyH_take (i := 6) (v := ?_) rfl (by kernel_rfl) (by kernel_rfl) (by kernel_rfl) (fun _ _ _ h => h) (Or.inl ⟨by rfl, ?_⟩) (by assumption) ?_
            rotate_left
            first | (focus ((intro w hSw; (try dsimp only at hSw); go_simp); (try with_reducible rfl); done)) | fail
            try simp only [Act.put, List.getElem_toArray, List.getElem_cons_zero, List.getElem_cons_succ, List.setIfInBounds_toArray, List.set_cons_zero, List.set_cons_succ]
            refine wpAnyH_take (i := 7) (v := ?_) rfl (by kernel_rfl) (by kernel_rfl) (by kernel_rfl) (fun _ _ _ h => h) (Or.inl ⟨by rfl, ?_⟩) (by assumption) ?_
            rotate_left
            first | (focus ((intro w hSw; (try dsimp only at hSw); go_simp); (try with_reducible rfl); done)) | fail
            try simp only [Act.put, List.getElem_toArray, List.getElem_cons_zero, List.getElem_cons_succ, List.setIfInBounds_toArray, List.set_cons_zero, List.set_cons_succ]
            refine wpAnyH_take (i := 8) (v := ?_) rfl (by kernel_rfl) (by kernel_rfl) (by kernel_rfl) (fun _ _ _ h => h) (Or.inl ⟨by rfl, ?_⟩) (by assumption) ?_
            rotate_left
            first | (focus ((intro w hSw; (try dsimp only at hSw); go_simp); (try with_reducible rfl); done)) | fail
            try simp only [Act.put, List.getElem_toArray, List.getElem_cons_zero, List.getElem_cons_succ, List.setIfInBounds_toArray, List.set_cons_zero, List.set_cons_succ]
            refine wpAnyH_take (i := 9) (v := ?_) rfl (by kernel_rfl) (by kernel_rfl) (by kernel_rfl) (fun _ _ _ h => h) (Or.inl ⟨by rfl, ?_⟩) (by assumption) ?_
            rotate_left
            first | (focus ((intro w hSw; (try dsimp only at hSw); go_simp); (try with_reducible rfl); done)) | fail
            try simp only [Act.put, List.getElem_toArray, List.getElem_cons_zero, List.getElem_cons_succ, List.setIfInBounds_toArray, List.set_cons_zero, List.set_cons_succ]
            refine wpAnyH_take (i := 10) (v := ?_) rfl (by kernel_rfl) (by kernel_rfl) (by kernel_rfl) (fun _ _ _ h => h) (Or.inl ⟨by rfl, ?_⟩) (by assumption) ?_
            rotate_left
            first | (focus ((intro w hSw; (try dsimp only at hSw); go_simp); (try with_reducible rfl); done)) | fail
            try simp only [Act.put, List.getElem_toArray, List.getElem_cons_zero, List.getElem_cons_succ, List.setIfInBounds_toArray, List.set_cons_zero, List.set_cons_succ]
            refine wpAnyH_take (i := 11) (v := ?_) rfl (by kernel_rfl) (by kernel_rfl) (by kernel_rfl) (fun _ _ _ h => h) (Or.inl ⟨by rfl, ?_⟩) (by assumption) ?_
            rotate_left
            first | (focus ((intro w hSw; (try dsimp only at hSw); go_simp); (try with_reducible rfl); done)) | fail
            try simp only [Act.put, List.getElem_toArray, List.getElem_cons_zero, List.getElem_cons_succ, List.setIfInBounds_toArray, List.set_cons_zero, List.set_cons_succ]
            refine wpAnyH_take (i := 12) (v := ?_) rfl (by kernel_rfl) (by kernel_rfl) (by kernel_rfl) (fun _ _ _ h => h) (Or.inl ⟨by rfl, ?_⟩) (by assumption) ?_
            rotate_left
            first | (focus ((intro w hSw; (try dsimp only at hSw); go_simp); (try with_reducible rfl); done)) | fail
            try simp only [Act.put, List.getElem_toArray, List.getElem_cons_zero, List.getElem_cons_succ, List.setIfInBounds_toArray, List.set_cons_zero, List.set_cons_succ]
            refine wpAnyH_take (i := 13) (v := ?_) rfl (by kernel_rfl) (by kernel_rfl) (by kernel_rfl) (fun _ _ _ h => h) (Or.inl ⟨by rfl, ?_⟩) (by assumption) ?_
            rotate_left
            first | (focus ((intro w hSw; (try dsimp only at hSw); go_simp); (try with_reducible rfl); done)) | fail
            try simp only [Act.put, List.getElem_toArray, List.getElem_cons_zero, List.getElem_cons_succ, List.setIfInBounds_toArray, List.set_cons_zero, List.set_cons_succ]
            refine wpAnyH_ready (rs := [14]) (by kernel_rfl) (by simp) ?_
            refine AllReadyH.cons rfl (fun K hK => ?_) AllReadyH.nil
            go_simp
            refine (CY.out _).mono ?_; rintro e w6 ⟨rfl, b6⟩
            go_wp2_with fail
            refine hK.out _ _ ?_ (fun hHeld => ?_)
            · (try dsimp only); exact ⟨(b6.cell (by show b0 < w5.heap.size; omega)).trans hHeld.1, (b6.cell (by show b0 < w5.heap.size; omega)).trans hHeld.2.1, (b6.cell (by show b0 < w5.heap.size; omega)).trans hHeld.2.2.1, (b6.cell (by show b0 < w5.heap.size; omega)).trans hHeld.2.2.2⟩
            clear hK K
            try simp only [Act.put, List.getElem_toArray, List.getElem_cons_zero, List.getElem_cons_succ, List.setIfInBounds_toArray, List.set_cons_zero, List.set_cons_succ]
            refine wpAnyH_take (i := 15) (v := ?_) rfl (by kernel_rfl) (by kernel_rfl) (by kernel_rfl) (fun _ _ _ h => h) (Or.inl ⟨by rfl, ?_⟩) (by assumption) ?_
            rotate_left
            first | (focus ((intro w hSw; (try dsimp only at hSw); go_simp); (try with_reducible rfl); done)) | fail
            try simp only [Act.put, List.getElem_toArray, List.getElem_cons_zero, List.getElem_cons_succ, List.setIfInBounds_toArray, List.set_cons_zero, List.set_cons_succ]
            refine wpAnyH_take (i := 16) (v := ?_) rfl (by kernel_rfl) (by kernel_rfl) (by kernel_rfl) (fun _ _ _ h => h) (Or.inl ⟨by rfl, ?_⟩) (by assumption) ?_
            rotate_left
            first | (focus ((intro w hSw; (try dsimp only at hSw); go_simp); (try with_reducible rfl); done)) | fail
            try simp only [Act.put, List.getElem_toArray, List.getElem_cons_zero, List.getElem_cons_succ, List.setIfInBounds_toArray, List.set_cons_zero, List.set_cons_succ]
            refine wpAnyH_done (by kernel_rfl) ?_ _
            have HB6 := Lib.hid (HB.out.drew.trans (below_of_le b6 (show N ≤ w5.heap.size by omega)))
            clear b6 hHeld
            cases lt
            · have hE := Lib.hid (show chkG none L = 6 by rw [hst3.out]; rfl)
              go_wp2
              go_ret
              exact ⟨ret_int hE.out.symm, HB6.out⟩
            · have hnx := Lib.hid (show chkG none L = chkG (prevA L (j' + 1 + 1)) (L.drop (j' + 1 + 1)) by rw [hst3.out]; rfl)
              go_wp2
              go_roundw
              case rel => exact ⟨j' + 1 + 1, by omega, by go_num, hnx.out, HB6.out⟩
              case measure => simp [intOf]; omega
      · have hj' : j = n := by omega
        subst hj'
        have hE := Lib.hid (show chkG none L = 0 by
          rw [HM.out.1, List.drop_eq_nil_of_le (by have := HL.out; omega)]
          cases prevA L j <;> rfl)
        go_wp2
        go_ret
        exact ⟨ret_int hE.out.symm, HM.out.2⟩
end Go.Proofs.Ytailbppddnegoaa
/- Layer 17 (vector): Check, Of. -/
namespace Go.Proofs.Ytailbppddnegoaa
open Go.RowKit
set_option linter.unusedVariables false
set_option maxRecDepth 100000
attribute [local go_sem ↓] Go.wp_at_zero Go.wp_at_succ

set_option maxHeartbeats 2000000 in
theorem vccheck_any (w : World) (A : Option Addr) (c : Nat) (L : List Dt) (hr : MsAt w A L) (hn : L.length ≤ 9223372036854775807) :
    Calls Try.prog 77 #[.slice A L.length c] w fun e w' => e = .returned (.int .i64 (chkE L)) ∧ Below w.heap.size w w' := by
  have CR := Lib.hid (fun a n w => vcright_any a n w)
  have CA := Lib.hid (fun d i d' i' w => compare_any d i d' i' w)
  have HR := Lib.hid hr
  by_cases hlong : 4096 < L.length
  · have hE : chkE L = 3 := by unfold chkE; rw [if_pos hlong]
    rw [hE]
    have B0 := Lib.hid (Below.refl w.heap.size w)
    clear hr hE
    generalize L.length = n at *
    go_enter Try.func77, Try.ntmps77
    go_wp2
    go_ret
    exact ⟨rfl, B0.out⟩
  · have hE : chkE L = chkG none L := by unfold chkE; rw [if_neg hlong]
    rw [hE]
    generalize hlen : L.length = n at *
    have HL := Lib.hid hlen
    have B0 := Lib.hid (Below.refl w.heap.size w)
    generalize hN : w.heap.size = N at *
    unfold acV at CR
    unfold actV at CA
    have hn4 : n ≤ 4096 := by omega
    clear hr hE hlen hlong
    go_enter Try.func77, Try.ntmps77
    go_wp2_with fail
    go_loopw [10] (fun i wr => ∃ (j : Nat), j ≤ n ∧ i = .int .i64 j ∧ chkG none L = chkG (prevA L j) (L.drop j) ∧ Below N w wr) (fun i _ => n - (intOf i).toNat)
    case atStart => exact ⟨0, by omega, rfl, rfl, B0.out⟩
    case round =>
      obtain ⟨j, hj, rfl, hchk, hb⟩ := hrel
      have HM := Lib.hid (And.intro hchk hb)
      clear hchk hb B0
      by_cases hlt : j < n
      · obtain ⟨x, hx⟩ : ∃ x, L[j]? = some x := ⟨L[j]'(by have := HL.out; omega), List.getElem?_eq_getElem _⟩
        obtain ⟨b0, o0, hA, hb0, k0, k1, k2⟩ := (Ds.below (hN ▸ HR.out : Ds w N A L) HM.out.2).at_ hx
        have hst := Lib.hid (HM.out.1.trans (chk_step hx))
        have hNr : N ≤ wr.heap.size := by have := HM.out.2.size; omega
        obtain ⟨⟨d, i⟩, s⟩ := x
        simp only at k0 k1 k2
        have HC := Lib.hid (C3.new wr d i s 33)
        have HB4 := Lib.hid (HM.out.2.alloc hNr (.cells #[.int .i64 d, .int .i64 i, .int .i64 s] 33))
        have hs4 : (wr.alloc (.cells #[.int .i64 d, .int .i64 i, .int .i64 s] 33)).heap.size = wr.heap.size + 1 := by simp
        have HS4 := Lib.hid hs4
        have CX := Lib.hid (fun w => CR.out (d, i) s w)
        clear hx hs4
        subst hA
        cases hr : rightD ((d, i), s)
        · rw [hr] at CX
          have hE := Lib.hid (show chkG none L = 4 by rw [hst.out, hr]; rfl)
          clear hr
          go_wp2_with fail
          generalize hP : wr.heap.size = P at *
          generalize (wr.alloc (.cells #[.int .i64 d, .int .i64 i, .int .i64 s] 33)) = W4 at *
          obtain ⟨l0, l1, l2⟩ := HC.out
          have hsz4 := HS4.out
          refine (CX.out _).mono ?_; rintro e w5 ⟨rfl, b5⟩
          have HB := Lib.hid (HB4.out.trans (below_of_le b5 (by omega)))
          clear b5 l0 l1 l2
          go_wp2
          go_ret
          exact ⟨ret_int hE.out.symm, HB.out⟩
        · rw [hr] at CX
          have hst2 := Lib.hid (show chkG none L = if badP (prevA L j) (d, i) = true then 6 else chkG (prevA L (j + 1)) (L.drop (j + 1)) by rw [hst.out, hr]; rfl)
          clear hr
          go_wp2_with fail
          generalize hP : wr.heap.size = P at *
          generalize (wr.alloc (.cells #[.int .i64 d, .int .i64 i, .int .i64 s] 33)) = W4 at *
          have hsz4 := HS4.out
          refine (CX.out _).mono ?_; rintro e w5 ⟨rfl, b5⟩
          have HB := Lib.hid (And.intro (HB4.out.trans (below_of_le b5 (by omega))) (HC.out.up (by omega) b5))
          have hN5 : P < w5.heap.size := by have := b5.size; omega
          clear b5 k0 k1 k2 hsz4 HS4 HC HB4
          by_cases hj0 : j = 0
          · subst hj0
            have hnx := Lib.hid (show chkG none L = chkG (prevA L (0 + 1)) (L.drop (0 + 1)) by rw [hst2.out]; rfl)
            go_wp2_with fail
            refine wp_region_held_drew (S := (fun _ => True)) (by kernel_rfl) ?_ (fun hHeld => ?_)
            · (try dsimp only); try trivial
            refine wpAnyH_take (i := 0) (v := ?_) rfl (by kernel_rfl) (by kernel_rfl) (by kernel_rfl) (fun _ _ _ h => h) (Or.inl ⟨by rfl, ?_⟩) (by assumption) ?_
            rotate_left
            first | (focus ((intro w hSw; (try dsimp only at hSw); go_simp); (try with_reducible rfl); done)) | fail
            try simp only [Act.put, List.getElem_toArray, List.getElem_cons_zero, List.setIfInBounds_toArray, List.set_cons_zero, List.set_cons_succ]
            refine wpAnyH_take (i := 1) (v := ?_) rfl (by kernel_rfl) (by kernel_rfl) (by kernel_rfl) (fun _ _ _ h => h) (Or.inl ⟨by rfl, ?_⟩) (by assumption) ?_
            rotate_left
            first | (focus ((intro w hSw; (try dsimp only at hSw); go_simp); (try with_reducible rfl); done)) | fail
            try simp only [Act.put, List.getElem_toArray, List.getElem_cons_zero, List.getElem_cons_succ, List.setIfInBounds_toArray, List.set_cons_zero, List.set_cons_succ]
            refine wpAnyH_take (i := 2) (v := ?_) rfl (by kernel_rfl) (by kernel_rfl) (by kernel_rfl) (fun _ _ _ h => h) (Or.inl ⟨by rfl, ?_⟩) (by assumption) ?_
            rotate_left
            first | (focus ((intro w hSw; (try dsimp only at hSw); go_simp); (try with_reducible rfl); done)) | fail
            try simp only [Act.put, List.getElem_toArray, List.getElem_cons_zero, List.getElem_cons_succ, List.setIfInBounds_toArray, List.set_cons_zero, List.set_cons_succ]
            refine wpAnyH_take (i := 3) (v := undef) rfl (by kernel_rfl) (by kernel_rfl) (by kernel_rfl) (fun _ _ _ h => h) (Or.inr ⟨by rfl, rfl⟩) (by assumption) ?_
            try simp only [Act.put, List.getElem_toArray, List.getElem_cons_zero, List.getElem_cons_succ, List.setIfInBounds_toArray, List.set_cons_zero, List.set_cons_succ]
            refine wpAnyH_take (i := 4) (v := undef) rfl (by kernel_rfl) (by kernel_rfl) (by kernel_rfl) (fun _ _ _ h => h) (Or.inr ⟨by rfl, rfl⟩) (by assumption) ?_
            try simp only [Act.put, List.getElem_toArray, List.getElem_cons_zero, List.getElem_cons_succ, List.setIfInBounds_toArray, List.set_cons_zero, List.set_cons_succ]
            refine wpAnyH_take (i := 5) (v := undef) rfl (by kernel_rfl) (by kernel_rfl) (by kernel_rfl) (fun _ _ _ h => h) (Or.inr ⟨by rfl, rfl⟩) (by assumption) ?_
            try simp only [Act.put, List.getElem_toArray, List.getElem_cons_zero, List.getElem_cons_succ, List.setIfInBounds_toArray, List.set_cons_zero, List.set_cons_succ]
            refine wpAnyH_take (i := 6) (v := undef) rfl (by kernel_rfl) (by kernel_rfl) (by kernel_rfl) (fun _ _ _ h => h) (Or.inr ⟨by rfl, rfl⟩) (by assumption) ?_
            try simp only [Act.put, List.getElem_toArray, List.getElem_cons_zero, List.getElem_cons_succ, List.setIfInBounds_toArray, List.set_cons_zero, List.set_cons_succ]
            refine wpAnyH_take (i := 7) (v := undef) rfl (by kernel_rfl) (by kernel_rfl) (by kernel_rfl) (fun _ _ _ h => h) (Or.inr ⟨by rfl, rfl⟩) (by assumption) ?_
            try simp only [Act.put, List.getElem_toArray, List.getElem_cons_zero, List.getElem_cons_succ, List.setIfInBounds_toArray, List.set_cons_zero, List.set_cons_succ]
            refine wpAnyH_take (i := 8) (v := undef) rfl (by kernel_rfl) (by kernel_rfl) (by kernel_rfl) (fun _ _ _ h => h) (Or.inr ⟨by rfl, rfl⟩) (by assumption) ?_
            try simp only [Act.put, List.getElem_toArray, List.getElem_cons_zero, List.getElem_cons_succ, List.setIfInBounds_toArray, List.set_cons_zero, List.set_cons_succ]
            refine wpAnyH_take (i := 9) (v := undef) rfl (by kernel_rfl) (by kernel_rfl) (by kernel_rfl) (fun _ _ _ h => h) (Or.inr ⟨by rfl, rfl⟩) (by assumption) ?_
            try simp only [Act.put, List.getElem_toArray, List.getElem_cons_zero, List.getElem_cons_succ, List.setIfInBounds_toArray, List.set_cons_zero, List.set_cons_succ]
            refine wpAnyH_take (i := 10) (v := undef) rfl (by kernel_rfl) (by kernel_rfl) (by kernel_rfl) (fun _ _ _ h => h) (Or.inr ⟨by rfl, rfl⟩) (by assumption) ?_
            try simp only [Act.put, List.getElem_toArray, List.getElem_cons_zero, List.getElem_cons_succ, List.setIfInBounds_toArray, List.set_cons_zero, List.set_cons_succ]
            refine wpAnyH_take (i := 11) (v := undef) rfl (by kernel_rfl) (by kernel_rfl) (by kernel_rfl) (fun _ _ _ h => h) (Or.inr ⟨by rfl, rfl⟩) (by assumption) ?_
            try simp only [Act.put, List.getElem_toArray, List.getElem_cons_zero, List.getElem_cons_succ, List.setIfInBounds_toArray, List.set_cons_zero, List.set_cons_succ]
            refine wpAnyH_take (i := 12) (v := undef) rfl (by kernel_rfl) (by kernel_rfl) (by kernel_rfl) (fun _ _ _ h => h) (Or.inr ⟨by rfl, rfl⟩) (by assumption) ?_
            try simp only [Act.put, List.getElem_toArray, List.getElem_cons_zero, List.getElem_cons_succ, List.setIfInBounds_toArray, List.set_cons_zero, List.set_cons_succ]
            refine wpAnyH_take (i := 13) (v := ?_) rfl (by kernel_rfl) (by kernel_rfl) (by kernel_rfl) (fun _ _ _ h => h) (Or.inl ⟨by rfl, ?_⟩) (by assumption) ?_
            rotate_left
            first | (focus ((intro w hSw; (try dsimp only at hSw); go_simp); (try with_reducible rfl); done)) | fail
            try simp only [Act.put, List.getElem_toArray, List.getElem_cons_zero, List.getElem_cons_succ, List.setIfInBounds_toArray, List.set_cons_zero, List.set_cons_succ]
            refine wpAnyH_take (i := 14) (v := ?_) rfl (by kernel_rfl) (by kernel_rfl) (by kernel_rfl) (fun _ _ _ h => h) (Or.inl ⟨by rfl, ?_⟩) (by assumption) ?_
            rotate_left
            first | (focus ((intro w hSw; (try dsimp only at hSw); go_simp); (try with_reducible rfl); done)) | fail
            try simp only [Act.put, List.getElem_toArray, List.getElem_cons_zero, List.getElem_cons_succ, List.setIfInBounds_toArray, List.set_cons_zero, List.set_cons_succ]
            refine wpAnyH_done (by kernel_rfl) ?_ _
            go_wp2
            go_roundw
            case rel => exact ⟨0 + 1, by omega, by go_num, hnx.out, HB.out.1.drew⟩
            case measure => simp [intOf]; omega
          · obtain ⟨y, hy⟩ : ∃ y, L[j - 1]? = some y := ⟨L[j - 1]'(by have := HL.out; omega), List.getElem?_eq_getElem _⟩
            obtain ⟨b1, o1, hA1, hb1, l0, l1, l2⟩ := (Ds.below (hN ▸ HR.out : Ds w N (some ⟨b0, o0, none⟩) L) HB.out.1).at_ hy
            cases hA1
            obtain ⟨⟨y1, y2⟩, y3⟩ := y
            have hpa := prevA_of (by omega) hy
            have hbp : badP (prevA L j) (d, i) = !aLt (y1, y2) (d, i) := by rw [hpa]; rfl
            have hal : decide (0 ≤ orI (cmpI y1 d) (cmpI y2 i)) = !aLt (y1, y2) (d, i) := cmp_aLt (y1, y2) (d, i)
            have CY := Lib.hid (fun w => CA.out y1 y2 d i w)
            have hst3 := Lib.hid (show chkG none L = if (!aLt (y1, y2) (d, i)) = true then 6 else chkG (prevA L (j + 1)) (L.drop (j + 1)) by rw [hst2.out, hbp])
            generalize aLt (y1, y2) (d, i) = lt at *
            generalize orI (cmpI y1 d) (cmpI y2 i) = z at *
            have HL5 := Lib.hid (And.intro l0 l1)
            obtain ⟨j', rfl⟩ : ∃ j', j = j' + 1 := ⟨j - 1, by omega⟩
            rw [Nat.add_sub_cancel] at HL5
            have hw1 : IntKind.i64.wrap (j' : Int) = (j' : Int) := by rw [IntKind.wrap_i64]; omega
            have hj1 : (0 : Int) ≤ (j' : Int) := by omega
            have hj2 : (j' : Int) < (n : Int) := by omega
            clear hy l0 l1 l2 hpa hbp
            cases lt
            · have hE := Lib.hid (show chkG none L = 6 by rw [hst3.out]; rfl)
              have hal' : decide (0 ≤ z) = true := by rw [hal]; rfl
              clear hal
              go_wp2_with fail
              refine wp_region_held_drew (S := (fun W => W.cell? ⟨P, 0, none⟩ = some (.int .i64 d) ∧ W.cell? ⟨P, 1, none⟩ = some (.int .i64 i) ∧ W.cell? ⟨b0, o0 + j' * 3, none⟩ = some (.int .i64 y1) ∧ W.cell? ⟨b0, o0 + j' * 3 + 1, none⟩ = some (.int .i64 y2))) (by kernel_rfl) ?_ (fun hHeld => ?_)
              · (try dsimp only); exact ⟨HB.out.2.1, HB.out.2.2.1, HL5.out.1, HL5.out.2⟩
              refine wpAnyH_take (i := 0) (v := ?_) rfl (by kernel_rfl) (by kernel_rfl) (by kernel_rfl) (fun _ _ _ h => h) (Or.inl ⟨by rfl, ?_⟩) (by assumption) ?_
              rotate_left
              first | (focus ((intro w hSw; (try dsimp only at hSw); go_simp); (try with_reducible rfl); done)) | fail
              try simp only [Act.put, List.getElem_toArray, List.getElem_cons_zero, List.setIfInBounds_toArray, List.set_cons_zero, List.set_cons_succ]
              refine wpAnyH_take (i := 1) (v := ?_) rfl (by kernel_rfl) (by kernel_rfl) (by kernel_rfl) (fun _ _ _ h => h) (Or.inl ⟨by rfl, ?_⟩) (by assumption) ?_
              rotate_left
              first | (focus ((intro w hSw; (try dsimp only at hSw); go_simp); (try with_reducible rfl); done)) | fail
              try simp only [Act.put, List.getElem_toArray, List.getElem_cons_zero, List.getElem_cons_succ, List.setIfInBounds_toArray, List.set_cons_zero, List.set_cons_succ]
              refine wpAnyH_take (i := 2) (v := ?_) rfl (by kernel_rfl) (by kernel_rfl) (by kernel_rfl) (fun _ _ _ h => h) (Or.inl ⟨by rfl, ?_⟩) (by assumption) ?_
              rotate_left
              first | (focus ((intro w hSw; (try dsimp only at hSw); go_simp); (try with_reducible rfl); done)) | fail
              try simp only [Act.put, List.getElem_toArray, List.getElem_cons_zero, List.getElem_cons_succ, List.setIfInBounds_toArray, List.set_cons_zero, List.set_cons_succ]
              refine wpAnyH_take (i := 3) (v := ?_) rfl (by kernel_rfl) (by kernel_rfl) (by kernel_rfl) (fun _ _ _ h => h) (Or.inl ⟨by rfl, ?_⟩) (by assumption) ?_
              rotate_left
              first | (focus ((intro w hSw; (try dsimp only at hSw); go_simp); (try with_reducible rfl); done)) | fail
              try simp only [Act.put, List.getElem_toArray, List.getElem_cons_zero, List.getElem_cons_succ, List.setIfInBounds_toArray, List.set_cons_zero, List.set_cons_succ]
              refine wpAnyH_take (i := 4) (v := ?_) rfl (by kernel_rfl) (by kernel_rfl) (by kernel_rfl) (fun _ _ _ h => h) (Or.inl ⟨by rfl, ?_⟩) (by assumption) ?_
              rotate_left
              first | (focus ((intro w hSw; (try dsimp only at hSw); go_simp); (try with_reducible rfl); done)) | fail
              try simp only [Act.put, List.getElem_toArray, List.getElem_cons_zero, List.getElem_cons_succ, List.setIfInBounds_toArray, List.set_cons_zero, List.set_cons_succ]
              refine wpAnyH_take (i := 5) (v := ?_) rfl (by kernel_rfl) (by kernel_rfl) (by kernel_rfl) (fun _ _ _ h => h) (Or.inl ⟨by rfl, ?_⟩) (by assumption) ?_
              rotate_left
              first | (focus ((intro w hSw; (try dsimp only at hSw); go_simp); (try with_reducible rfl); done)) | fail
              try simp only [Act.put, List.getElem_toArray, List.getElem_cons_zero, List.getElem_cons_succ, List.setIfInBounds_toArray, List.set_cons_zero, List.set_cons_succ]
              refine wpAnyH_take (i := 6) (v := ?_) rfl (by kernel_rfl) (by kernel_rfl) (by kernel_rfl) (fun _ _ _ h => h) (Or.inl ⟨by rfl, ?_⟩) (by assumption) ?_
              rotate_left
              first | (focus ((intro w hSw; (try dsimp only at hSw); go_simp); (try with_reducible rfl); done)) | fail
              try simp only [Act.put, List.getElem_toArray, List.getElem_cons_zero, List.getElem_cons_succ, List.setIfInBounds_toArray, List.set_cons_zero, List.set_cons_succ]
              refine wpAnyH_take (i := 7) (v := ?_) rfl (by kernel_rfl) (by kernel_rfl) (by kernel_rfl) (fun _ _ _ h => h) (Or.inl ⟨by rfl, ?_⟩) (by assumption) ?_
              rotate_left
              first | (focus ((intro w hSw; (try dsimp only at hSw); go_simp); (try with_reducible rfl); done)) | fail
              try simp only [Act.put, List.getElem_toArray, List.getElem_cons_zero, List.getElem_cons_succ, List.setIfInBounds_toArray, List.set_cons_zero, List.set_cons_succ]
              refine wpAnyH_take (i := 8) (v := ?_) rfl (by kernel_rfl) (by kernel_rfl) (by kernel_rfl) (fun _ _ _ h => h) (Or.inl ⟨by rfl, ?_⟩) (by assumption) ?_
              rotate_left
              first | (focus ((intro w hSw; (try dsimp only at hSw); go_simp); (try with_reducible rfl); done)) | fail
              try simp only [Act.put, List.getElem_toArray, List.getElem_cons_zero, List.getElem_cons_succ, List.setIfInBounds_toArray, List.set_cons_zero, List.set_cons_succ]
              refine wpAnyH_take (i := 9) (v := ?_) rfl (by kernel_rfl) (by kernel_rfl) (by kernel_rfl) (fun _ _ _ h => h) (Or.inl ⟨by rfl, ?_⟩) (by assumption) ?_
              rotate_left
              first | (focus ((intro w hSw; (try dsimp only at hSw); go_simp); (try with_reducible rfl); done)) | fail
              try simp only [Act.put, List.getElem_toArray, List.getElem_cons_zero, List.getElem_cons_succ, List.setIfInBounds_toArray, List.set_cons_zero, List.set_cons_succ]
              refine wpAnyH_take (i := 10) (v := ?_) rfl (by kernel_rfl) (by kernel_rfl) (by kernel_rfl) (fun _ _ _ h => h) (Or.inl ⟨by rfl, ?_⟩) (by assumption) ?_
              rotate_left
              first | (focus ((intro w hSw; (try dsimp only at hSw); go_simp); (try with_reducible rfl); done)) | fail
              try simp only [Act.put, List.getElem_toArray, List.getElem_cons_zero, List.getElem_cons_succ, List.setIfInBounds_toArray, List.set_cons_zero, List.set_cons_succ]
              refine wpAnyH_ready (rs := [11]) (by kernel_rfl) (by simp) ?_
              refine AllReadyH.cons rfl (fun K hK => ?_) AllReadyH.nil
              go_simp
              refine (CY.out _).mono ?_; rintro e w6 ⟨rfl, b6⟩
              go_wp2_with fail
              refine hK.out _ _ ?_ (fun hHeld => ?_)
              · (try dsimp only); exact ⟨(b6.cell (by show P < w5.heap.size; omega)).trans hHeld.1, (b6.cell (by show P < w5.heap.size; omega)).trans hHeld.2.1, (b6.cell (by show b0 < w5.heap.size; omega)).trans hHeld.2.2.1, (b6.cell (by show b0 < w5.heap.size; omega)).trans hHeld.2.2.2⟩
              clear hK K
              try simp only [Act.put, List.getElem_toArray, List.getElem_cons_zero, List.getElem_cons_succ, List.setIfInBounds_toArray, List.set_cons_zero, List.set_cons_succ]
              refine wpAnyH_take (i := 12) (v := ?_) rfl (by kernel_rfl) (by kernel_rfl) (by kernel_rfl) (fun _ _ _ h => h) (Or.inl ⟨by rfl, ?_⟩) (by assumption) ?_
              rotate_left
              first | (focus ((intro w hSw; (try dsimp only at hSw); go_simp); (try with_reducible rfl); done)) | fail
              try simp only [Act.put, List.getElem_toArray, List.getElem_cons_zero, List.getElem_cons_succ, List.setIfInBounds_toArray, List.set_cons_zero, List.set_cons_succ]
              refine wpAnyH_take (i := 13) (v := ?_) rfl (by kernel_rfl) (by kernel_rfl) (by kernel_rfl) (fun _ _ _ h => h) (Or.inl ⟨by rfl, ?_⟩) (by assumption) ?_
              rotate_left
              first | (focus ((intro w hSw; (try dsimp only at hSw); go_simp); (try with_reducible rfl); done)) | fail
              try simp only [Act.put, List.getElem_toArray, List.getElem_cons_zero, List.getElem_cons_succ, List.setIfInBounds_toArray, List.set_cons_zero, List.set_cons_succ]
              refine wpAnyH_take (i := 14) (v := ?_) rfl (by kernel_rfl) (by kernel_rfl) (by kernel_rfl) (fun _ _ _ h => h) (Or.inl ⟨by rfl, ?_⟩) (by assumption) ?_
              rotate_left
              first | (focus ((intro w hSw; (try dsimp only at hSw); go_simp); (try with_reducible rfl); done)) | fail
              try simp only [Act.put, List.getElem_toArray, List.getElem_cons_zero, List.getElem_cons_succ, List.setIfInBounds_toArray, List.set_cons_zero, List.set_cons_succ]
              refine wpAnyH_done (by kernel_rfl) ?_ _
              have HB6 := Lib.hid (HB.out.1.drew.trans (below_of_le b6 (show N ≤ w5.heap.size by omega)))
              clear b6 hHeld
              go_wp2
              go_ret
              exact ⟨ret_int hE.out.symm, HB6.out⟩
            · have hnx := Lib.hid (show chkG none L = chkG (prevA L (j' + 1 + 1)) (L.drop (j' + 1 + 1)) by rw [hst3.out]; rfl)
              have hal' : decide (0 ≤ z) = false := by rw [hal]; rfl
              clear hal
              go_wp2_with fail
              refine wp_region_held_drew (S := (fun W => W.cell? ⟨P, 0, none⟩ = some (.int .i64 d) ∧ W.cell? ⟨P, 1, none⟩ = some (.int .i64 i) ∧ W.cell? ⟨b0, o0 + j' * 3, none⟩ = some (.int .i64 y1) ∧ W.cell? ⟨b0, o0 + j' * 3 + 1, none⟩ = some (.int .i64 y2))) (by kernel_rfl) ?_ (fun hHeld => ?_)
              · (try dsimp only); exact ⟨HB.out.2.1, HB.out.2.2.1, HL5.out.1, HL5.out.2⟩
              refine wpAnyH_take (i := 0) (v := ?_) rfl (by kernel_rfl) (by kernel_rfl) (by kernel_rfl) (fun _ _ _ h => h) (Or.inl ⟨by rfl, ?_⟩) (by assumption) ?_
              rotate_left
              first | (focus ((intro w hSw; (try dsimp only at hSw); go_simp); (try with_reducible rfl); done)) | fail
              try simp only [Act.put, List.getElem_toArray, List.getElem_cons_zero, List.setIfInBounds_toArray, List.set_cons_zero, List.set_cons_succ]
              refine wpAnyH_take (i := 1) (v := ?_) rfl (by kernel_rfl) (by kernel_rfl) (by kernel_rfl) (fun _ _ _ h => h) (Or.inl ⟨by rfl, ?_⟩) (by assumption) ?_
              rotate_left
              first | (focus ((intro w hSw; (try dsimp only at hSw); go_simp); (try with_reducible rfl); done)) | fail
              try simp only [Act.put, List.getElem_toArray, List.getElem_cons_zero, List.getElem_cons_succ, List.setIfInBounds_toArray, List.set_cons_zero, List.set_cons_succ]
              refine wpAnyH_take (i := 2) (v := ?_) rfl (by kernel_rfl) (by kernel_rfl) (by kernel_rfl) (fun _ _ _ h => h) (Or.inl ⟨by rfl, ?_⟩) (by assumption) ?_
              rotate_left
              first | (focus ((intro w hSw; (try dsimp only at hSw); go_simp); (try with_reducible rfl); done)) | fail
              try simp only [Act.put, List.getElem_toArray, List.getElem_cons_zero, List.getElem_cons_succ, List.setIfInBounds_toArray, List.set_cons_zero, List.set_cons_succ]
              refine wpAnyH_take (i := 3) (v := ?_) rfl (by kernel_rfl) (by kernel_rfl) (by kernel_rfl) (fun _ _ _ h => h) (Or.inl ⟨by rfl, ?_⟩) (by assumption) ?_
              rotate_left
              first | (focus ((intro w hSw; (try dsimp only at hSw); go_simp); (try with_reducible rfl); done)) | fail
              try simp only [Act.put, List.getElem_toArray, List.getElem_cons_zero, List.getElem_cons_succ, List.setIfInBounds_toArray, List.set_cons_zero, List.set_cons_succ]
              refine wpAnyH_take (i := 4) (v := ?_) rfl (by kernel_rfl) (by kernel_rfl) (by kernel_rfl) (fun _ _ _ h => h) (Or.inl ⟨by rfl, ?_⟩) (by assumption) ?_
              rotate_left
              first | (focus ((intro w hSw; (try dsimp only at hSw); go_simp); (try with_reducible rfl); done)) | fail
              try simp only [Act.put, List.getElem_toArray, List.getElem_cons_zero, List.getElem_cons_succ, List.setIfInBounds_toArray, List.set_cons_zero, List.set_cons_succ]
              refine wpAnyH_take (i := 5) (v := ?_) rfl (by kernel_rfl) (by kernel_rfl) (by kernel_rfl) (fun _ _ _ h => h) (Or.inl ⟨by rfl, ?_⟩) (by assumption) ?_
              rotate_left
              first | (focus ((intro w hSw; (try dsimp only at hSw); go_simp); (try with_reducible rfl); done)) | fail
              try simp only [Act.put, List.getElem_toArray, List.getElem_cons_zero, List.getElem_cons_succ, List.setIfInBounds_toArray, List.set_cons_zero, List.set_cons_succ]
              refine wpAnyH_take (i := 6) (v := ?_) rfl (by kernel_rfl) (by kernel_rfl) (by kernel_rfl) (fun _ _ _ h => h) (Or.inl ⟨by rfl, ?_⟩) (by assumption) ?_
              rotate_left
              first | (focus ((intro w hSw; (try dsimp only at hSw); go_simp); (try with_reducible rfl); done)) | fail
              try simp only [Act.put, List.getElem_toArray, List.getElem_cons_zero, List.getElem_cons_succ, List.setIfInBounds_toArray, List.set_cons_zero, List.set_cons_succ]
              refine wpAnyH_take (i := 7) (v := ?_) rfl (by kernel_rfl) (by kernel_rfl) (by kernel_rfl) (fun _ _ _ h => h) (Or.inl ⟨by rfl, ?_⟩) (by assumption) ?_
              rotate_left
              first | (focus ((intro w hSw; (try dsimp only at hSw); go_simp); (try with_reducible rfl); done)) | fail
              try simp only [Act.put, List.getElem_toArray, List.getElem_cons_zero, List.getElem_cons_succ, List.setIfInBounds_toArray, List.set_cons_zero, List.set_cons_succ]
              refine wpAnyH_take (i := 8) (v := ?_) rfl (by kernel_rfl) (by kernel_rfl) (by kernel_rfl) (fun _ _ _ h => h) (Or.inl ⟨by rfl, ?_⟩) (by assumption) ?_
              rotate_left
              first | (focus ((intro w hSw; (try dsimp only at hSw); go_simp); (try with_reducible rfl); done)) | fail
              try simp only [Act.put, List.getElem_toArray, List.getElem_cons_zero, List.getElem_cons_succ, List.setIfInBounds_toArray, List.set_cons_zero, List.set_cons_succ]
              refine wpAnyH_take (i := 9) (v := ?_) rfl (by kernel_rfl) (by kernel_rfl) (by kernel_rfl) (fun _ _ _ h => h) (Or.inl ⟨by rfl, ?_⟩) (by assumption) ?_
              rotate_left
              first | (focus ((intro w hSw; (try dsimp only at hSw); go_simp); (try with_reducible rfl); done)) | fail
              try simp only [Act.put, List.getElem_toArray, List.getElem_cons_zero, List.getElem_cons_succ, List.setIfInBounds_toArray, List.set_cons_zero, List.set_cons_succ]
              refine wpAnyH_take (i := 10) (v := ?_) rfl (by kernel_rfl) (by kernel_rfl) (by kernel_rfl) (fun _ _ _ h => h) (Or.inl ⟨by rfl, ?_⟩) (by assumption) ?_
              rotate_left
              first | (focus ((intro w hSw; (try dsimp only at hSw); go_simp); (try with_reducible rfl); done)) | fail
              try simp only [Act.put, List.getElem_toArray, List.getElem_cons_zero, List.getElem_cons_succ, List.setIfInBounds_toArray, List.set_cons_zero, List.set_cons_succ]
              refine wpAnyH_ready (rs := [11]) (by kernel_rfl) (by simp) ?_
              refine AllReadyH.cons rfl (fun K hK => ?_) AllReadyH.nil
              go_simp
              refine (CY.out _).mono ?_; rintro e w6 ⟨rfl, b6⟩
              go_wp2_with fail
              refine hK.out _ _ ?_ (fun hHeld => ?_)
              · (try dsimp only); exact ⟨(b6.cell (by show P < w5.heap.size; omega)).trans hHeld.1, (b6.cell (by show P < w5.heap.size; omega)).trans hHeld.2.1, (b6.cell (by show b0 < w5.heap.size; omega)).trans hHeld.2.2.1, (b6.cell (by show b0 < w5.heap.size; omega)).trans hHeld.2.2.2⟩
              clear hK K
              try simp only [Act.put, List.getElem_toArray, List.getElem_cons_zero, List.getElem_cons_succ, List.setIfInBounds_toArray, List.set_cons_zero, List.set_cons_succ]
              refine wpAnyH_take (i := 12) (v := ?_) rfl (by kernel_rfl) (by kernel_rfl) (by kernel_rfl) (fun _ _ _ h => h) (Or.inl ⟨by rfl, ?_⟩) (by assumption) ?_
              rotate_left
              first | (focus ((intro w hSw; (try dsimp only at hSw); go_simp); (try with_reducible rfl); done)) | fail
              try simp only [Act.put, List.getElem_toArray, List.getElem_cons_zero, List.getElem_cons_succ, List.setIfInBounds_toArray, List.set_cons_zero, List.set_cons_succ]
              refine wpAnyH_take (i := 13) (v := ?_) rfl (by kernel_rfl) (by kernel_rfl) (by kernel_rfl) (fun _ _ _ h => h) (Or.inl ⟨by rfl, ?_⟩) (by assumption) ?_
              rotate_left
              first | (focus ((intro w hSw; (try dsimp only at hSw); go_simp); (try with_reducible rfl); done)) | fail
              try simp only [Act.put, List.getElem_toArray, List.getElem_cons_zero, List.getElem_cons_succ, List.setIfInBounds_toArray, List.set_cons_zero, List.set_cons_succ]
              refine wpAnyH_take (i := 14) (v := ?_) rfl (by kernel_rfl) (by kernel_rfl) (by kernel_rfl) (fun _ _ _ h => h) (Or.inl ⟨by rfl, ?_⟩) (by assumption) ?_
              rotate_left
              first | (focus ((intro w hSw; (try dsimp only at hSw); go_simp); (try with_reducible rfl); done)) | fail
              try simp only [Act.put, List.getElem_toArray, List.getElem_cons_zero, List.getElem_cons_succ, List.setIfInBounds_toArray, List.set_cons_zero, List.set_cons_succ]
              refine wpAnyH_done (by kernel_rfl) ?_ _
              have HB6 := Lib.hid (HB.out.1.drew.trans (below_of_le b6 (show N ≤ w5.heap.size by omega)))
              clear b6 hHeld
              go_wp2
              go_roundw
              case rel => exact ⟨j' + 1 + 1, by omega, by go_num, hnx.out, HB6.out⟩
              case measure => simp [intOf]; omega
      · have hj' : j = n := by omega
        subst hj'
        have hE := Lib.hid (show chkG none L = 0 by
          rw [HM.out.1, List.drop_eq_nil_of_le (by have := HL.out; omega)]
          cases prevA L j <;> rfl)
        go_wp2
        go_ret
        exact ⟨ret_int hE.out.symm, HM.out.2⟩
end Go.Proofs.Ytailbppddnegoaa
/- Layer 17 (vector): Of. -/
namespace Go.Proofs.Ytailbppddnegoaa
open Go.RowKit
set_option linter.unusedVariables false
set_option maxRecDepth 100000
attribute [local go_sem ↓] Go.wp_at_zero Go.wp_at_succ

theorem rset_snoc {M : List Dt} {a : Ac} {n : Int} (h : Srt (M ++ [(a, n)])) : rset M a n = M ++ [(a, n)] := by
  induction M with
  | nil => rfl
  | cons y r ih =>
    have hs := List.pairwise_cons.1 h
    have h1 : aLt y.1 a = true := hs.1 (a, n) (by simp)
    unfold rset
    rw [if_pos h1, ih hs.2]
    rfl
theorem Vw.sub {M : List Dt} (h : Vw M) (j : Nat) : Vw (M.take j) := ⟨List.Pairwise.sublist (List.take_sublist _ _) h.1, fun x hx => h.2 x (List.mem_of_mem_take hx)⟩
/-- The vector of marks, or why there is none. -/
def OfEnd (w : World) (L : List Dt) (e : Ending) (w' : World) : Prop :=
  if chkE L = 0 then ∃ v b, e = .returned (.tuple #[.pointer (some ⟨v, 0, none⟩), .int .i64 0]) ∧ w.heap.size ≤ v ∧ w.heap.size ≤ b ∧ VecIs w' v b L ∧ Below w.heap.size w w'
  else e = .returned (.tuple #[.pointer none, .int .i64 (chkE L)]) ∧ Below w.heap.size w w'
set_option maxHeartbeats 1000000 in
theorem vcof_any (w : World) (A : Option Addr) (c : Nat) (L : List Dt) (hr : MsAt w A L) (hn : L.length ≤ 9223372036854775807) :
    Calls Try.prog 74 #[.slice A L.length c] w (OfEnd w L) := by
  have CK := Lib.hid (vccheck_any w A c L hr hn)
  have CN := Lib.hid (fun w => vcnew_any w)
  have HR := Lib.hid hr
  clear hr
  by_cases hz : chkE L = 0
  · have hvw := Lib.hid (chkE_vw hz).1
    have UP := Lib.hid (fun (W : World) v b (M : List Dt) (hW : VecIs W v b M) a n hr => hW.upd a n hr)
    have HE := Lib.hid (fun (W : World) v b (h1 : w.heap.size ≤ v) (h2 : w.heap.size ≤ b) (h : VecIs W v b L) (hb : Below w.heap.size w W) => (show OfEnd w L (.returned (.tuple #[.pointer (some ⟨v, 0, none⟩), .int .i64 0])) W by
      unfold OfEnd
      rw [if_pos hz]
      exact ⟨v, b, rfl, h1, h2, h, hb⟩))
    rw [hz] at CK
    clear hz
    generalize hlen : L.length = n at *
    have HL := Lib.hid hlen
    generalize hN : w.heap.size = N at *
    unfold acV at UP
    clear hlen
    go_enter Try.func74, Try.ntmps74
    go_wp2_with fail
    refine (CK.out).mono ?_; rintro e w1 ⟨rfl, b1⟩
    have B1 := Lib.hid b1
    have hz1 : N ≤ w1.heap.size := by have := b1.size; omega
    clear b1 CK
    go_wp2_with fail
    refine (CN.out _).mono ?_; rintro e w2 ⟨rfl, hv2, b2⟩
    have H2 := Lib.hid (And.intro hv2 (B1.out.trans (below_of_le b2 (by omega))))
    clear hv2 b2 CN
    generalize hq1 : w1.heap.size = q1 at *
    go_wp2_with fail
    go_loopw [16] (fun i wr => ∃ (j : Nat), j ≤ n ∧ i = .int .i64 j ∧ VecIs wr (q1 + 1) q1 (L.take j) ∧ Below N w wr) (fun i _ => n - (intOf i).toNat)
    case atStart => exact ⟨0, by omega, rfl, H2.out.1, hN ▸ H2.out.2⟩
    case round =>
      obtain ⟨j, hj, rfl, hv, hb⟩ := hrel
      have HM := Lib.hid (And.intro hv hb)
      clear hv hb H2
      by_cases hlt : j < n
      · obtain ⟨x, hx⟩ : ∃ x, L[j]? = some x := ⟨L[j]'(by have := HL.out; omega), List.getElem?_eq_getElem _⟩
        obtain ⟨b0, o0, hA, hb0, k0, k1, k2⟩ := (Ds.below (hN ▸ HR.out : Ds w N A L) HM.out.2).at_ hx
        have hNr : q1 + 1 < wr.heap.size := HM.out.1.ltv
        have htk : L.take (j + 1) = L.take j ++ [x] := by rw [List.take_add_one, hx]; rfl
        have hrs := Lib.hid (show rset (L.take j) x.1 x.2 = L.take (j + 1) by
          rw [htk]
          exact rset_snoc (by have := (hvw.out.sub (j + 1)).1; rw [htk] at this; exact this))
        have hrd := hvw.out.2 x (List.mem_of_getElem? hx)
        obtain ⟨⟨d, i⟩, s⟩ := x
        simp only at k0 k1 k2 hrs
        have HC := Lib.hid (C3.new wr d i s 33)
        have HV4 := Lib.hid (And.intro (HM.out.1.alloc (.cells #[.int .i64 d, .int .i64 i, .int .i64 s] 33)) (HM.out.2.alloc (by omega) (.cells #[.int .i64 d, .int .i64 i, .int .i64 s] 33)))
        obtain ⟨w5, q5, hv5, hc5⟩ := UP.out _ _ _ _ HV4.out.1.drew (d, i) s hrd
        have hP4 : wr.heap.size < (wr.alloc (.cells #[.int .i64 d, .int .i64 i, .int .i64 s] 33)).heap.size := by simp
        simp only at q5 hv5
        rw [hrs.out] at hv5
        have Q5 := Lib.hid q5
        have HP4 := Lib.hid hP4
        have H5 := Lib.hid (And.intro hv5 hc5)
        clear hx htk hrd q5 hv5 hc5 hP4
        subst hA
        go_wp2_with fail
        generalize hP : wr.heap.size = P at *
        generalize (wr.alloc (.cells #[.int .i64 d, .int .i64 i, .int .i64 s] 33)) = W4 at *
        clear k0 k1 k2
        have hcv := HV4.out.1.cell
        have HCV := Lib.hid hcv
        clear hcv
        refine wp_region_held_drew (S := (fun W => W.cell? ⟨P, 0, none⟩ = some (.int .i64 d) ∧ W.cell? ⟨P, 1, none⟩ = some (.int .i64 i) ∧ W.cell? ⟨P, 2, none⟩ = some (.int .i64 s) ∧ W.cell? ⟨q1 + 1, 0, none⟩ = some (.map (some q1)))) (by kernel_rfl) ?_ (fun hHeld => ?_)
        · (try dsimp only); exact ⟨HC.out.1, HC.out.2.1, HC.out.2.2, HCV.out⟩
        refine wpAnyH_take (i := 0) (v := ?_) rfl (by kernel_rfl) (by kernel_rfl) (by kernel_rfl) (fun _ _ _ h => h) (Or.inl ⟨by rfl, ?_⟩) (by assumption) ?_
        rotate_left
        first | (focus ((intro w hSw; (try dsimp only at hSw); go_simp); (try with_reducible rfl); done)) | fail
        try simp only [Act.put, List.getElem_toArray, List.getElem_cons_zero, List.setIfInBounds_toArray, List.set_cons_zero, List.set_cons_succ]
        refine wpAnyH_take (i := 1) (v := ?_) rfl (by kernel_rfl) (by kernel_rfl) (by kernel_rfl) (fun _ _ _ h => h) (Or.inl ⟨by rfl, ?_⟩) (by assumption) ?_
        rotate_left
        first | (focus ((intro w hSw; (try dsimp only at hSw); go_simp); (try with_reducible rfl); done)) | fail
        try simp only [Act.put, List.getElem_toArray, List.getElem_cons_zero, List.getElem_cons_succ, List.setIfInBounds_toArray, List.set_cons_zero, List.set_cons_succ]
        refine wpAnyH_take (i := 2) (v := ?_) rfl (by kernel_rfl) (by kernel_rfl) (by kernel_rfl) (fun _ _ _ h => h) (Or.inl ⟨by rfl, ?_⟩) (by assumption) ?_
        rotate_left
        first | (focus ((intro w hSw; (try dsimp only at hSw); go_simp); (try with_reducible rfl); done)) | fail
        try simp only [Act.put, List.getElem_toArray, List.getElem_cons_zero, List.getElem_cons_succ, List.setIfInBounds_toArray, List.set_cons_zero, List.set_cons_succ]
        refine wpAnyH_take (i := 3) (v := ?_) rfl (by kernel_rfl) (by kernel_rfl) (by kernel_rfl) (fun _ _ _ h => h) (Or.inl ⟨by rfl, ?_⟩) (by assumption) ?_
        rotate_left
        first | (focus ((intro w hSw; (try dsimp only at hSw); go_simp); (try with_reducible rfl); done)) | fail
        try simp only [Act.put, List.getElem_toArray, List.getElem_cons_zero, List.getElem_cons_succ, List.setIfInBounds_toArray, List.set_cons_zero, List.set_cons_succ]
        refine wpAnyH_take (i := 4) (v := ?_) rfl (by kernel_rfl) (by kernel_rfl) (by kernel_rfl) (fun _ _ _ h => h) (Or.inl ⟨by rfl, ?_⟩) (by assumption) ?_
        rotate_left
        first | (focus ((intro w hSw; (try dsimp only at hSw); go_simp); (try with_reducible rfl); done)) | fail
        try simp only [Act.put, List.getElem_toArray, List.getElem_cons_zero, List.getElem_cons_succ, List.setIfInBounds_toArray, List.set_cons_zero, List.set_cons_succ]
        refine wpAnyH_take (i := 5) (v := ?_) rfl (by kernel_rfl) (by kernel_rfl) (by kernel_rfl) (fun _ _ _ h => h) (Or.inl ⟨by rfl, ?_⟩) (by assumption) ?_
        rotate_left
        first | (focus ((intro w hSw; (try dsimp only at hSw); go_simp); (try with_reducible rfl); done)) | fail
        try simp only [Act.put, List.getElem_toArray, List.getElem_cons_zero, List.getElem_cons_succ, List.setIfInBounds_toArray, List.set_cons_zero, List.set_cons_succ]
        refine wpAnyH_take (i := 6) (v := ?_) rfl (by kernel_rfl) (by kernel_rfl) (by kernel_rfl) (fun _ _ _ h => h) (Or.inl ⟨by rfl, ?_⟩) (by assumption) ?_
        rotate_left
        first | (focus ((intro w hSw; (try dsimp only at hSw); go_simp); (try with_reducible rfl); done)) | fail
        try simp only [Act.put, List.getElem_toArray, List.getElem_cons_zero, List.getElem_cons_succ, List.setIfInBounds_toArray, List.set_cons_zero, List.set_cons_succ]
        refine wpAnyH_take (i := 7) (v := ?_) rfl (by kernel_rfl) (by kernel_rfl) (by kernel_rfl) (fun _ _ _ h => h) (Or.inl ⟨by rfl, ?_⟩) (by assumption) ?_
        rotate_left
        first | (focus ((intro w hSw; (try dsimp only at hSw); go_simp); (try with_reducible rfl); done)) | fail
        try simp only [Act.put, List.getElem_toArray, List.getElem_cons_zero, List.getElem_cons_succ, List.setIfInBounds_toArray, List.set_cons_zero, List.set_cons_succ]
        have q5 := Q5.out
        refine wpAnyH_ready (rs := [8]) (by kernel_rfl) (by simp) ?_
        refine AllReadyH.cons rfl (fun K hK => ?_) AllReadyH.nil
        go_simp
        refine hK.out _ _ ?_ (fun hHeld => ?_)
        · (try dsimp only); (have hh := C3.blk (W := W4.drew) HC.out (H5.out.2.block P (show P < W4.heap.size from HP4.out) (by omega)); exact ⟨hh.1, hh.2.1, hh.2.2, H5.out.1.cell⟩)
        clear hK K
        try simp only [Act.put, List.getElem_toArray, List.getElem_cons_zero, List.getElem_cons_succ, List.setIfInBounds_toArray, List.set_cons_zero, List.set_cons_succ]
        clear q5
        refine wpAnyH_done (by kernel_rfl) ?_ _
        have HF := Lib.hid (And.intro H5.out.1 (HV4.out.2.drew.trans (H5.out.2.below (fun k hk e => by have e' : k = q1 := e; omega) (by show N ≤ W4.heap.size; have := HP4.out; omega))))
        clear hHeld
        go_wp2
        go_roundw
        case rel => exact ⟨j + 1, by omega, by go_num, HF.out.1, HF.out.2⟩
        case measure => simp [intOf]; omega
      · have hj' : j = n := by omega
        subst hj'
        have ht := Lib.hid (show L.take j = L by rw [List.take_of_length_le (by have := HL.out; omega)])
        have HF := Lib.hid (HE.out wr (q1 + 1) q1 (by omega) (by omega) (by have := HM.out.1; rw [ht.out] at this; exact this) (hN ▸ HM.out.2))
        go_wp2
        go_ret2
        exact HF.out
  · have HE := Lib.hid (fun (W : World) (hb : Below w.heap.size w W) => (show OfEnd w L (.returned (.tuple #[.pointer none, .int .i64 (chkE L)])) W by
      unfold OfEnd
      rw [if_neg hz]
      exact ⟨rfl, hb⟩))
    have hne : (chkE L != 0) = true := by simpa using hz
    generalize chkE L = r at *
    generalize L.length = n at *
    clear hz
    go_enter Try.func74, Try.ntmps74
    go_wp2_with fail
    refine (CK.out).mono ?_; rintro e w1 ⟨rfl, b1⟩
    have HF := Lib.hid (HE.out _ b1)
    clear b1 CK
    go_wp2
    go_ret2
    exact HF.out
end Go.Proofs.Ytailbppddnegoaa
