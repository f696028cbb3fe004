/- Layer 17, the document's marks: Meet, Covers. -/
import Derived.Test.YtailbppddnegoaaY11
namespace Go.Proofs.Ytailbppddnegoaa
open Go.RowKit
set_option linter.unusedVariables false
set_option maxRecDepth 100000
attribute [local go_sem ↓] Go.wp_at_zero Go.wp_at_succ

theorem rcov_step {L O : List Dt} {j : Nat} {x : Dt} (hx : O[j]? = some x) (h : rcov L (O.take j) = true) : rcov L (O.take (j + 1)) = decide (x.2 ≤ mget L x.1) := by
  rw [List.take_add_one, hx]
  unfold rcov at h ⊢
  rw [List.all_append, h]
  simp
theorem rcov_no {L O : List Dt} {x : Dt} (hx : x ∈ O) : x.2 ≤ mget L x.1 ∨ rcov L O = false := by
  by_cases hle : x.2 ≤ mget L x.1
  · exact .inl hle
  · refine .inr ?_
    unfold rcov
    rw [List.all_eq_false]
    exact ⟨x, hx, by simpa using hle⟩
theorem lt_not_le (q s : Int) : decide (q < s) = !decide (s ≤ q) := by
  rw [Bool.eq_iff_iff]
  simp only [decide_eq_true_eq, Bool.not_eq_true', decide_eq_false_iff_not]
  omega
/-- Three cells of a mark that lies below what has been made. -/
theorem keep3 {W W' : World} {b0 p0 p1 p2 : Nat} {x y z : Value} (hb : b0 < W.heap.size) (b : Below W.heap.size W W') (h : W.cell? ⟨b0, p0, none⟩ = some x ∧ W.cell? ⟨b0, p1, none⟩ = some y ∧ W.cell? ⟨b0, p2, none⟩ = some z) :
    W'.cell? ⟨b0, p0, none⟩ = some x ∧ W'.cell? ⟨b0, p1, none⟩ = some y ∧ W'.cell? ⟨b0, p2, none⟩ = some z :=
  ⟨(b.cell hb).trans h.1, (b.cell hb).trans h.2.1, (b.cell hb).trans h.2.2⟩
set_option maxHeartbeats 1000000 in
theorem rcovers17_any (w : World) (A A' : Option Addr) (c c' : Nat) (L O : List Dt) (hr : MsAt w A L) (ho : MsAt w A' O) (hn : L.length ≤ 9223372036854775807) (hno : O.length ≤ 9223372036854775807) :
    Calls Try.prog 37 #[.slice A L.length c, .slice A' O.length c'] w fun e w' => e = .returned (.bool (rcov L O)) ∧ Below w.heap.size w w' := by
  have CG := Lib.hid (fun (a : Ac) (W : World) (hW : MsAt W A L) => rget17_any W W.heap.size A c L a hW (Nat.le_refl _) hn)
  have R0 := Lib.hid (And.intro hr (Below.refl w.heap.size w))
  have HO := Lib.hid ho
  generalize hlen : O.length = n at *
  have HL := Lib.hid hlen
  generalize L.length = m at *
  generalize hN : w.heap.size = N at *
  unfold acV at CG
  clear hr ho hlen
  go_enter Try.func37, Try.ntmps37
  go_wp2_with fail
  go_loopw [5] (fun i wr => ∃ (j : Nat), j ≤ n ∧ i = .int .i64 j ∧ rcov L (O.take j) = true ∧ MsAt wr A L ∧ Below N w wr) (fun i _ => n - (intOf i).toNat)
  case atStart => exact ⟨0, by omega, rfl, rfl, R0.out.1, R0.out.2⟩
  case round =>
    obtain ⟨j, hj, rfl, hcv, hM, hb⟩ := hrel
    have HM := Lib.hid (And.intro hM (And.intro hb hcv))
    clear hM hb R0 hcv
    by_cases hlt : j < n
    · obtain ⟨x, hx⟩ : ∃ x, O[j]? = some x := ⟨O[j]'(by have := HL.out; omega), List.getElem?_eq_getElem _⟩
      obtain ⟨b0, o0, hA, hb0, k0, k1, k2⟩ := (Ds.below (hN ▸ HO.out : Ds w N A' O) HM.out.2.1).at_ hx
      have htk := Lib.hid (rcov_step hx HM.out.2.2)
      have hno := Lib.hid (rcov_no (L := L) (List.mem_of_getElem? hx))
      obtain ⟨⟨d, i⟩, s⟩ := x
      have hqd := lt_not_le (mget L (d, i)) s
      have CX := Lib.hid (fun (W : World) (h : MsAt W A L) => CG.out (d, i) W h)
      simp only at k0 k1 k2 htk hno
      have HK := Lib.hid (And.intro k0 (And.intro k1 k2))
      have hNr : N ≤ wr.heap.size := by have := HM.out.2.1.size; omega
      clear hx k0 k1 k2
      subst hA
      generalize mget L (d, i) = q at *
      go_wp2_with fail
      refine wp_region_held_drew (S := (fun W => W.cell? ⟨b0, o0 + j * 3, none⟩ = some (.int .i64 d) ∧ W.cell? ⟨b0, o0 + j * 3 + 1, none⟩ = some (.int .i64 i) ∧ W.cell? ⟨b0, o0 + j * 3 + 2, none⟩ = some (.int .i64 s))) (by kernel_rfl) ?_ (fun hHeld => ?_)
      · (try dsimp only); exact HK.out
      refine wpAnyH_take (i := 0) (v := ?_) rfl (by kernel_rfl) (by kernel_rfl) (by kernel_rfl) (fun _ _ _ h => h) (Or.inl ⟨by rfl, ?_⟩) (by assumption) ?_
      rotate_left
      · (intro w hSw; (try dsimp only at hSw); go_simp); try with_reducible rfl
      try simp only [Act.put, List.getElem_toArray, List.getElem_cons_zero, List.setIfInBounds_toArray, List.set_cons_zero, List.set_cons_succ]
      refine wpAnyH_take (i := 1) (v := ?_) rfl (by kernel_rfl) (by kernel_rfl) (by kernel_rfl) (fun _ _ _ h => h) (Or.inl ⟨by rfl, ?_⟩) (by assumption) ?_
      rotate_left
      · (intro w hSw; (try dsimp only at hSw); go_simp); try with_reducible rfl
      try simp only [Act.put, List.getElem_toArray, List.getElem_cons_zero, List.getElem_cons_succ, List.setIfInBounds_toArray, List.set_cons_zero, List.set_cons_succ]
      refine wpAnyH_take (i := 2) (v := ?_) rfl (by kernel_rfl) (by kernel_rfl) (by kernel_rfl) (fun _ _ _ h => h) (Or.inl ⟨by rfl, ?_⟩) (by assumption) ?_
      rotate_left
      · (intro w hSw; (try dsimp only at hSw); go_simp); try with_reducible rfl
      try simp only [Act.put, List.getElem_toArray, List.getElem_cons_zero, List.getElem_cons_succ, List.setIfInBounds_toArray, List.set_cons_zero, List.set_cons_succ]
      refine wpAnyH_take (i := 3) (v := ?_) rfl (by kernel_rfl) (by kernel_rfl) (by kernel_rfl) (fun _ _ _ h => h) (Or.inl ⟨by rfl, ?_⟩) (by assumption) ?_
      rotate_left
      · (intro w hSw; (try dsimp only at hSw); go_simp); try with_reducible rfl
      try simp only [Act.put, List.getElem_toArray, List.getElem_cons_zero, List.getElem_cons_succ, List.setIfInBounds_toArray, List.set_cons_zero, List.set_cons_succ]
      refine wpAnyH_take (i := 4) (v := ?_) rfl (by kernel_rfl) (by kernel_rfl) (by kernel_rfl) (fun _ _ _ h => h) (Or.inl ⟨by rfl, ?_⟩) (by assumption) ?_
      rotate_left
      · (intro w hSw; (try dsimp only at hSw); go_simp); try with_reducible rfl
      try simp only [Act.put, List.getElem_toArray, List.getElem_cons_zero, List.getElem_cons_succ, List.setIfInBounds_toArray, List.set_cons_zero, List.set_cons_succ]
      refine wpAnyH_take (i := 5) (v := ?_) rfl (by kernel_rfl) (by kernel_rfl) (by kernel_rfl) (fun _ _ _ h => h) (Or.inl ⟨by rfl, ?_⟩) (by assumption) ?_
      rotate_left
      · (intro w hSw; (try dsimp only at hSw); go_simp); try with_reducible rfl
      try simp only [Act.put, List.getElem_toArray, List.getElem_cons_zero, List.getElem_cons_succ, List.setIfInBounds_toArray, List.set_cons_zero, List.set_cons_succ]
      refine wpAnyH_take (i := 7) (v := ?_) rfl (by kernel_rfl) (by kernel_rfl) (by kernel_rfl) (fun _ _ _ h => h) (Or.inl ⟨by rfl, ?_⟩) (by assumption) ?_
      rotate_left
      · (intro w hSw; (try dsimp only at hSw); go_simp); try with_reducible rfl
      try simp only [Act.put, List.getElem_toArray, List.getElem_cons_zero, List.getElem_cons_succ, List.setIfInBounds_toArray, List.set_cons_zero, List.set_cons_succ]
      refine wpAnyH_take (i := 8) (v := ?_) rfl (by kernel_rfl) (by kernel_rfl) (by kernel_rfl) (fun _ _ _ h => h) (Or.inl ⟨by rfl, ?_⟩) (by assumption) ?_
      rotate_left
      · (intro w hSw; (try dsimp only at hSw); go_simp); try with_reducible rfl
      try simp only [Act.put, List.getElem_toArray, List.getElem_cons_zero, List.getElem_cons_succ, List.setIfInBounds_toArray, List.set_cons_zero, List.set_cons_succ]
      refine wpAnyH_take (i := 9) (v := ?_) rfl (by kernel_rfl) (by kernel_rfl) (by kernel_rfl) (fun _ _ _ h => h) (Or.inl ⟨by rfl, ?_⟩) (by assumption) ?_
      rotate_left
      · (intro w hSw; (try dsimp only at hSw); go_simp); try with_reducible rfl
      try simp only [Act.put, List.getElem_toArray, List.getElem_cons_zero, List.getElem_cons_succ, List.setIfInBounds_toArray, List.set_cons_zero, List.set_cons_succ]
      refine wpAnyH_take (i := 10) (v := ?_) rfl (by kernel_rfl) (by kernel_rfl) (by kernel_rfl) (fun _ _ _ h => h) (Or.inl ⟨by rfl, ?_⟩) (by assumption) ?_
      rotate_left
      · (intro w hSw; (try dsimp only at hSw); go_simp); try with_reducible rfl
      try simp only [Act.put, List.getElem_toArray, List.getElem_cons_zero, List.getElem_cons_succ, List.setIfInBounds_toArray, List.set_cons_zero, List.set_cons_succ]
      refine wpAnyH_take (i := 11) (v := ?_) rfl (by kernel_rfl) (by kernel_rfl) (by kernel_rfl) (fun _ _ _ h => h) (Or.inl ⟨by rfl, ?_⟩) (by assumption) ?_
      rotate_left
      · (intro w hSw; (try dsimp only at hSw); go_simp); try with_reducible rfl
      try simp only [Act.put, List.getElem_toArray, List.getElem_cons_zero, List.getElem_cons_succ, List.setIfInBounds_toArray, List.set_cons_zero, List.set_cons_succ]
      refine wpAnyH_ready (rs := [6]) (by kernel_rfl) (by simp) ?_
      refine AllReadyH.cons rfl (fun K hK => ?_) AllReadyH.nil
      go_simp
      refine (CX.out _ (HM.out.1.up (Below.drew (Below.refl _ _)))).mono ?_; rintro e w5 ⟨rfl, b5⟩
      go_wp2_with fail
      refine hK.out _ _ ?_ (fun hHeld => ?_)
      · (try dsimp only); exact keep3 (by show b0 < wr.heap.size; omega) b5 hHeld
      clear hK K
      try simp only [Act.put, List.getElem_toArray, List.getElem_cons_zero, List.getElem_cons_succ, List.setIfInBounds_toArray, List.set_cons_zero, List.set_cons_succ]
      have HF := Lib.hid (And.intro ((HM.out.1.up (Below.drew (Below.refl _ _))).up b5) (HM.out.2.1.drew.trans (below_of_le b5 hNr)))
      clear b5
      by_cases hle : s ≤ q
      · have hd : decide (q < s) = false := by rw [hqd]; simpa using hle
        have h1 := Lib.hid (show rcov L (O.take (j + 1)) = true by rw [htk.out]; exact decide_eq_true hle)
        clear hqd hle
        refine wpAnyH_take (i := 12) (v := ?_) rfl (by kernel_rfl) (by kernel_rfl) (by kernel_rfl) (fun _ _ _ h => h) (Or.inl ⟨by rfl, ?_⟩) (by assumption) ?_
        rotate_left
        · (intro w hSw; (try dsimp only at hSw); go_simp); try with_reducible rfl
        try simp only [Act.put, List.getElem_toArray, List.getElem_cons_zero, List.getElem_cons_succ, List.setIfInBounds_toArray, List.set_cons_zero, List.set_cons_succ]
        refine wpAnyH_done (by kernel_rfl) ?_ _
        go_wp2
        go_roundw
        case rel => exact ⟨j + 1, by omega, by go_num, h1.out, HF.out.1, HF.out.2⟩
        case measure => simp [intOf]; omega
      · have hd : decide (q < s) = true := by rw [hqd]; simpa using hle
        have h1 := Lib.hid (show rcov L O = false by
          rcases hno.out with h | h
          · exact absurd h hle
          · exact h)
        clear hqd hle
        refine wpAnyH_take (i := 12) (v := ?_) rfl (by kernel_rfl) (by kernel_rfl) (by kernel_rfl) (fun _ _ _ h => h) (Or.inl ⟨by rfl, ?_⟩) (by assumption) ?_
        rotate_left
        · (intro w hSw; (try dsimp only at hSw); go_simp); try with_reducible rfl
        try simp only [Act.put, List.getElem_toArray, List.getElem_cons_zero, List.getElem_cons_succ, List.setIfInBounds_toArray, List.set_cons_zero, List.set_cons_succ]
        refine wpAnyH_done (by kernel_rfl) ?_ _
        go_wp2
        go_ret
        exact ⟨ret_bool h1.out.symm, HF.out.2⟩
    · have hj' : j = n := by omega
      subst hj'
      have ht := Lib.hid (show rcov L O = true by
        have := HM.out.2.2
        rwa [List.take_of_length_le (by have := HL.out; omega)] at this)
      go_wp2
      go_ret
      exact ⟨ret_bool ht.out.symm, HM.out.2.1⟩
theorem rmeet_step {L O : List Dt} {j : Nat} {x : Dt} (hx : L[j]? = some x) : rmeet (L.take (j + 1)) O = rmeet (L.take j) O ++ (if 0 < min x.2 (mget O x.1) then [(x.1, min x.2 (mget O x.1))] else []) := by
  rw [List.take_add_one, hx]
  unfold rmeet
  rw [List.filterMap_append]
  congr 1
  simp only [Option.toList_some, List.filterMap_cons, List.filterMap_nil]
  split <;> rename_i h
  · split at h
    · cases h
    · rename_i h1; rw [if_neg h1]
  · split at h
    · rename_i h1; cases h; rw [if_pos h1]
    · cases h
set_option maxHeartbeats 1000000 in
theorem rmeet17_any (w : World) (A A' : Option Addr) (c c' : Nat) (L O : List Dt) (hr : MsAt w A L) (ho : MsAt w A' O) (hn : L.length ≤ 100000000) (hno : O.length ≤ 9223372036854775807) :
    Calls Try.prog 38 #[.slice A L.length c, .slice A' O.length c'] w (NewMs w (rmeet L O)) := by
  have CG := Lib.hid (fun (a : Ac) (W : World) (hW : MsAt W A' O) => rget17_any W W.heap.size A' c' O a hW (Nat.le_refl _) hno)
  have HR := Lib.hid hr
  have HO := Lib.hid ho
  generalize hlen : L.length = n at *
  have HL := Lib.hid hlen
  generalize O.length = m at *
  have E0 := Lib.hid (And.intro (own_eM w 33 w.heap.size (Nat.le_refl _)) ((Below.refl w.heap.size w).alloc (Nat.le_refl _) (.cells #[] 33)))
  generalize hN : w.heap.size = N at *
  unfold acV at CG
  clear hr ho hlen
  go_enter Try.func38, Try.ntmps38
  go_wp2_with fail
  generalize (w.alloc (.cells #[] 33)) = W0 at *
  go_loopw [5, 6] (fun y i wr => ∃ (j : Nat) (A3 : Option Addr) (c3 : Nat), j ≤ n ∧ i = .int .i64 j ∧ y = .slice A3 (rmeet (L.take j) O).length c3 ∧ (rmeet (L.take j) O).length ≤ j ∧ Own wr N 33 3 A3 (rmeet (L.take j) O).length c3 (dts (rmeet (L.take j) O)) ∧ Below N w wr) (fun _ i _ => n - (intOf i).toNat)
  case atStart => exact ⟨0, some ⟨N, 0, none⟩, 0, by omega, rfl, rfl, by simp [rmeet], by simpa [rmeet, dts] using E0.out.1, E0.out.2⟩
  case round =>
    obtain ⟨j, A3, c3, hj, rfl, rfl, hlj, hM, hb⟩ := hrel
    have HM := Lib.hid (And.intro hM hb)
    clear hM hb E0
    by_cases hlt : j < n
    · obtain ⟨x, hx⟩ : ∃ x, L[j]? = some x := ⟨L[j]'(by have := HL.out; omega), List.getElem?_eq_getElem _⟩
      obtain ⟨b0, o0, hA, hb0, k0, k1, k2⟩ := (Ds.below (hN ▸ HR.out : Ds w N A L) HM.out.2).at_ hx
      have htk := Lib.hid (rmeet_step (O := O) hx)
      obtain ⟨⟨d, i⟩, s⟩ := x
      have CX := Lib.hid (fun (W : World) (h : MsAt W A' O) => CG.out (d, i) W h)
      simp only at k0 k1 k2 htk
      have HK := Lib.hid (And.intro k0 (And.intro k1 k2))
      have hNr : N ≤ wr.heap.size := by have := HM.out.2.size; omega
      clear hx k0 k1 k2
      subst hA
      generalize mget O (d, i) = q at *
      generalize hSl : (rmeet (L.take j) O) = S at *
      have HSl := Lib.hid hSl
      clear hSl
      go_wp2_with fail
      refine wp_region_held_drew (S := (fun W => W.cell? ⟨b0, o0 + j * 3, none⟩ = some (.int .i64 d) ∧ W.cell? ⟨b0, o0 + j * 3 + 1, none⟩ = some (.int .i64 i) ∧ W.cell? ⟨b0, o0 + j * 3 + 2, none⟩ = some (.int .i64 s))) (by kernel_rfl) ?_ (fun hHeld => ?_)
      · (try dsimp only); exact HK.out
      refine wpAnyH_take (i := 0) (v := ?_) rfl (by kernel_rfl) (by kernel_rfl) (by kernel_rfl) (fun _ _ _ h => h) (Or.inl ⟨by rfl, ?_⟩) (by assumption) ?_
      rotate_left
      · (intro w hSw; (try dsimp only at hSw); go_simp); try with_reducible rfl
      try simp only [Act.put, List.getElem_toArray, List.getElem_cons_zero, List.setIfInBounds_toArray, List.set_cons_zero, List.set_cons_succ]
      refine wpAnyH_take (i := 1) (v := ?_) rfl (by kernel_rfl) (by kernel_rfl) (by kernel_rfl) (fun _ _ _ h => h) (Or.inl ⟨by rfl, ?_⟩) (by assumption) ?_
      rotate_left
      · (intro w hSw; (try dsimp only at hSw); go_simp); try with_reducible rfl
      try simp only [Act.put, List.getElem_toArray, List.getElem_cons_zero, List.getElem_cons_succ, List.setIfInBounds_toArray, List.set_cons_zero, List.set_cons_succ]
      refine wpAnyH_take (i := 2) (v := ?_) rfl (by kernel_rfl) (by kernel_rfl) (by kernel_rfl) (fun _ _ _ h => h) (Or.inl ⟨by rfl, ?_⟩) (by assumption) ?_
      rotate_left
      · (intro w hSw; (try dsimp only at hSw); go_simp); try with_reducible rfl
      try simp only [Act.put, List.getElem_toArray, List.getElem_cons_zero, List.getElem_cons_succ, List.setIfInBounds_toArray, List.set_cons_zero, List.set_cons_succ]
      refine wpAnyH_take (i := 3) (v := ?_) rfl (by kernel_rfl) (by kernel_rfl) (by kernel_rfl) (fun _ _ _ h => h) (Or.inl ⟨by rfl, ?_⟩) (by assumption) ?_
      rotate_left
      · (intro w hSw; (try dsimp only at hSw); go_simp); try with_reducible rfl
      try simp only [Act.put, List.getElem_toArray, List.getElem_cons_zero, List.getElem_cons_succ, List.setIfInBounds_toArray, List.set_cons_zero, List.set_cons_succ]
      refine wpAnyH_take (i := 4) (v := ?_) rfl (by kernel_rfl) (by kernel_rfl) (by kernel_rfl) (fun _ _ _ h => h) (Or.inl ⟨by rfl, ?_⟩) (by assumption) ?_
      rotate_left
      · (intro w hSw; (try dsimp only at hSw); go_simp); try with_reducible rfl
      try simp only [Act.put, List.getElem_toArray, List.getElem_cons_zero, List.getElem_cons_succ, List.setIfInBounds_toArray, List.set_cons_zero, List.set_cons_succ]
      refine wpAnyH_take (i := 5) (v := ?_) rfl (by kernel_rfl) (by kernel_rfl) (by kernel_rfl) (fun _ _ _ h => h) (Or.inl ⟨by rfl, ?_⟩) (by assumption) ?_
      rotate_left
      · (intro w hSw; (try dsimp only at hSw); go_simp); try with_reducible rfl
      try simp only [Act.put, List.getElem_toArray, List.getElem_cons_zero, List.getElem_cons_succ, List.setIfInBounds_toArray, List.set_cons_zero, List.set_cons_succ]
      refine wpAnyH_take (i := 6) (v := ?_) rfl (by kernel_rfl) (by kernel_rfl) (by kernel_rfl) (fun _ _ _ h => h) (Or.inl ⟨by rfl, ?_⟩) (by assumption) ?_
      rotate_left
      · (intro w hSw; (try dsimp only at hSw); go_simp); try with_reducible rfl
      try simp only [Act.put, List.getElem_toArray, List.getElem_cons_zero, List.getElem_cons_succ, List.setIfInBounds_toArray, List.set_cons_zero, List.set_cons_succ]
      refine wpAnyH_take (i := 7) (v := ?_) rfl (by kernel_rfl) (by kernel_rfl) (by kernel_rfl) (fun _ _ _ h => h) (Or.inl ⟨by rfl, ?_⟩) (by assumption) ?_
      rotate_left
      · (intro w hSw; (try dsimp only at hSw); go_simp); try with_reducible rfl
      try simp only [Act.put, List.getElem_toArray, List.getElem_cons_zero, List.getElem_cons_succ, List.setIfInBounds_toArray, List.set_cons_zero, List.set_cons_succ]
      refine wpAnyH_take (i := 8) (v := ?_) rfl (by kernel_rfl) (by kernel_rfl) (by kernel_rfl) (fun _ _ _ h => h) (Or.inl ⟨by rfl, ?_⟩) (by assumption) ?_
      rotate_left
      · (intro w hSw; (try dsimp only at hSw); go_simp); try with_reducible rfl
      try simp only [Act.put, List.getElem_toArray, List.getElem_cons_zero, List.getElem_cons_succ, List.setIfInBounds_toArray, List.set_cons_zero, List.set_cons_succ]
      refine wpAnyH_take (i := 9) (v := ?_) rfl (by kernel_rfl) (by kernel_rfl) (by kernel_rfl) (fun _ _ _ h => h) (Or.inl ⟨by rfl, ?_⟩) (by assumption) ?_
      rotate_left
      · (intro w hSw; (try dsimp only at hSw); go_simp); try with_reducible rfl
      try simp only [Act.put, List.getElem_toArray, List.getElem_cons_zero, List.getElem_cons_succ, List.setIfInBounds_toArray, List.set_cons_zero, List.set_cons_succ]
      refine wpAnyH_take (i := 10) (v := ?_) rfl (by kernel_rfl) (by kernel_rfl) (by kernel_rfl) (fun _ _ _ h => h) (Or.inl ⟨by rfl, ?_⟩) (by assumption) ?_
      rotate_left
      · (intro w hSw; (try dsimp only at hSw); go_simp); try with_reducible rfl
      try simp only [Act.put, List.getElem_toArray, List.getElem_cons_zero, List.getElem_cons_succ, List.setIfInBounds_toArray, List.set_cons_zero, List.set_cons_succ]
      refine wpAnyH_ready (rs := [11]) (by kernel_rfl) (by simp) ?_
      refine AllReadyH.cons rfl (fun K hK => ?_) AllReadyH.nil
      go_simp
      refine (CX.out _ (HO.out.up (by rw [hN]; exact HM.out.2.drew))).mono ?_; rintro e w5 ⟨rfl, b5⟩
      go_wp2_with fail
      refine hK.out _ _ ?_ (fun hHeld => ?_)
      · (try dsimp only); exact keep3 (by show b0 < wr.heap.size; omega) b5 hHeld
      clear hK K
      try simp only [Act.put, List.getElem_toArray, List.getElem_cons_zero, List.getElem_cons_succ, List.setIfInBounds_toArray, List.set_cons_zero, List.set_cons_succ]
      have HF := Lib.hid (And.intro (Own.below HM.out.1.drew b5 (Nat.le_refl _)) (HM.out.2.drew.trans (below_of_le b5 hNr)))
      clear b5
      refine wpAnyH_ready (rs := [12]) (by kernel_rfl) (by simp) ?_
      refine AllReadyH.cons rfl (fun K hK => ?_) AllReadyH.nil
      go_simp
      refine hK.out _ _ ?_ (fun hHeld => ?_)
      · (try dsimp only); exact hHeld
      clear hK K
      try simp only [Act.put, List.getElem_toArray, List.getElem_cons_zero, List.getElem_cons_succ, List.setIfInBounds_toArray, List.set_cons_zero, List.set_cons_succ]
      refine wpAnyH_take (i := 13) (v := ?_) rfl (by kernel_rfl) (by kernel_rfl) (by kernel_rfl) (fun _ _ _ h => h) (Or.inl ⟨by rfl, ?_⟩) (by assumption) ?_
      rotate_left
      · (intro w hSw; (try dsimp only at hSw); go_simp); try with_reducible rfl
      try simp only [Act.put, List.getElem_toArray, List.getElem_cons_zero, List.getElem_cons_succ, List.setIfInBounds_toArray, List.set_cons_zero, List.set_cons_succ]
      refine wpAnyH_done (by kernel_rfl) ?_ _
      obtain ⟨k0, k1, k2⟩ := hHeld
      by_cases hp : 0 < min s q
      · have hs2 := Lib.hid (show rmeet (L.take (j + 1)) O = S ++ [((d, i), min s q)] by rw [htk.out, if_pos hp])
        obtain ⟨A4, c4, w4, q4, o4, ch4, b4⟩ := app1 w5 N A3 S.length c3 S rfl HF.out.1 ((d, i), min s q) (by omega) (by have := HF.out.2.size; omega)
        have HE := Lib.hid (And.intro o4 (HF.out.2.trans b4))
        have Q4 := Lib.hid q4
        clear o4 ch4 b4 q4
        generalize hmn : min s q = mn at *
        clear hmn
        go_wp2_with (at_builtin; refine wpList_want (by rfl) (fun K hK => wp_append_runs _ _ _ _ _ rfl _ _ rfl rfl _ _ Q4.out (hK _ _ ?_)))
        go_wp2
        go_roundw
        case rel => exact ⟨j + 1, A4, c4, by omega, by go_num, by rw [hs2.out]; simp, by rw [hs2.out]; simp; omega, by rw [hs2.out]; simpa using HE.out.1, HE.out.2⟩
        case measure => simp [intOf]; omega
      · have hs2 := Lib.hid (show rmeet (L.take (j + 1)) O = S by rw [htk.out, if_neg hp]; simp)
        generalize hmn : min s q = mn at *
        clear hmn
        go_wp2
        go_roundw
        case rel => exact ⟨j + 1, A3, c3, by omega, by go_num, by rw [hs2.out], by rw [hs2.out]; omega, by rw [hs2.out]; exact HF.out.1, HF.out.2⟩
        case measure => simp [intOf]; omega
    · have hj' : j = n := by omega
      subst hj'
      have ht := Lib.hid (show L.take j = L by rw [List.take_of_length_le (by have := HL.out; omega)])
      have HE := Lib.hid (show NewMs w (rmeet L O) (.returned (.slice A3 (rmeet (L.take j) O).length c3)) wr from ⟨A3, c3, by rw [ht.out], by have := HM.out.1; rw [ht.out] at this; rw [hN]; exact this, by rw [hN]; exact HM.out.2⟩)
      go_wp2
      go_ret
      exact HE.out
end Go.Proofs.Ytailbppddnegoaa
