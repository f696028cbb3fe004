/- Merged: Y11, Y12, Y13. -/
import Derived.Test.YtailbppddnegoaaYC
import Derived.Test.YtailbppddnegoaaYB
/- Layer 17, the document's marks: Take, Join, Meet, Covers. -/
namespace Go.Proofs.Ytailbppddnegoaa
open Go.RowKit
set_option linter.unusedVariables false
set_option maxRecDepth 100000
attribute [local go_sem ↓] Go.wp_at_zero Go.wp_at_succ

set_option maxHeartbeats 1000000 in
theorem rtake17_any (w : World) (A : Option Addr) (c : Nat) (L : List Dt) (x : Dt) (hr : MsAt w A L) (hv : Vw L) :
    Calls Try.prog 19 #[.slice A L.length c, dtV x] w (MsB w A (rtake L x) (takenB L x)) := by
  obtain ⟨⟨d, i⟩, s⟩ := x
  have hn := hv.len
  have CR := Lib.hid (fun w => rright_any d i s w)
  have CG := Lib.hid (fun (W : World) (hW : MsAt W A L) => rget17_any W W.heap.size A c L (d, i) hW (Nat.le_refl _) (by omega))
  have CS := Lib.hid (fun (W : World) (hW : MsAt W A L) => rset17_any W W.heap.size A c L (d, i) s hW (Nat.le_refl _) (by omega))
  rw [setL_eq hv.1] at CS
  have hq0 := hv.ge0 (d, i)
  have hq1 := hv.le (d, i)
  have hrb : takenB L ((d, i), s) = (dotB d i s && decide (mget L (d, i) + 1 = s)) := rfl
  have hrl : rtake L ((d, i), s) = if takenB L ((d, i), s) = true then rset L (d, i) s else L := rfl
  have B0 := Lib.hid ((Below.refl w.heap.size w).alloc (Nat.le_refl _) (.cells #[.int .i64 d, .int .i64 i, .int .i64 s] 27))
  have H := Lib.hid (C3.new w d i s 27)
  have HV := Lib.hid (hr.up B0.out)
  have HO := Lib.hid hr
  have hs0 : (w.alloc (.cells #[.int .i64 d, .int .i64 i, .int .i64 s] 27)).heap.size = w.heap.size + 1 := by simp
  have HS := Lib.hid hs0
  generalize hq : mget L (d, i) = q at *
  have hw1 : IntKind.i64.wrap (q + 1) = q + 1 := by rw [IntKind.wrap_i64]; omega
  generalize hT : rset L (d, i) s = T at *
  generalize hlen : L.length = m at *
  have HLen := Lib.hid hlen
  generalize hN : w.heap.size = N at *
  unfold dtV
  unfold dotV at CR
  unfold acV at CG CS
  rw [hrl, hrb]
  have HE := Lib.hid (fun (W : World) (b : Below N w W) => (show MsB w A L false (.returned (.tuple #[.slice A m c, .bool false])) W from ⟨A, c, by rw [HLen.out], HO.out.up (by rw [hN]; exact b), fun k h => .inl h, by rw [hN]; exact b⟩))
  clear hs0 hr hrb hrl hq hT hlen
  cases hr : dotB d i s
  · rw [hr] at CR
    simp only [Bool.false_and, Bool.false_eq_true, if_false]
    clear hr
    go_enter Try.func19, Try.ntmps19
    go_wp2_with fail
    generalize (w.alloc (.cells #[.int .i64 d, .int .i64 i, .int .i64 s] 27)) = W at *
    refine wp_region_held_drew (S := (fun W => W.cell? ⟨N, 0, none⟩ = some (.int .i64 d) ∧ W.cell? ⟨N, 1, none⟩ = some (.int .i64 i) ∧ W.cell? ⟨N, 2, none⟩ = some (.int .i64 s))) (by kernel_rfl) ?_ (fun hHeld => ?_)
    · (try dsimp only); exact H.out
    refine wpAnyH_take (i := 0) (v := ?_) rfl (by kernel_rfl) (by kernel_rfl) (by kernel_rfl) (fun _ _ _ h => h) (Or.inl ⟨by rfl, ?_⟩) (by assumption) ?_
    rotate_left
    first | (focus ((intro w hSw; (try dsimp only at hSw); go_simp); (try with_reducible rfl); done)) | fail
    try simp only [Act.put, List.getElem_toArray, List.getElem_cons_zero, List.setIfInBounds_toArray, List.set_cons_zero, List.set_cons_succ]
    refine wpAnyH_ready (rs := [1]) (by kernel_rfl) (by simp) ?_
    refine AllReadyH.cons rfl (fun K hK => ?_) AllReadyH.nil
    go_simp
    refine (CR.out _).mono ?_; rintro e w1 ⟨rfl, b1⟩
    go_wp2_with fail
    refine hK.out _ _ ?_ (fun hHeld => ?_)
    · (try dsimp only); exact C3.up hHeld (show N < W.heap.size by have := HS.out; omega) b1
    clear hK K
    try simp only [Act.put, List.getElem_toArray, List.getElem_cons_zero, List.getElem_cons_succ, List.setIfInBounds_toArray, List.set_cons_zero, List.set_cons_succ]
    refine wpAnyH_take (i := 2) (v := ?_) rfl (by kernel_rfl) (by kernel_rfl) (by kernel_rfl) (fun _ _ _ h => h) (Or.inl ⟨by rfl, ?_⟩) (by assumption) ?_
    rotate_left
    first | (focus ((intro w hSw; (try dsimp only at hSw); go_simp); (try with_reducible rfl); done)) | fail
    try simp only [Act.put, List.getElem_toArray, List.getElem_cons_zero, List.getElem_cons_succ, List.setIfInBounds_toArray, List.set_cons_zero, List.set_cons_succ]
    refine wpAnyH_take (i := 3) (v := ?_) rfl (by kernel_rfl) (by kernel_rfl) (by kernel_rfl) (fun _ _ _ h => h) (Or.inl ⟨by rfl, ?_⟩) (by assumption) ?_
    rotate_left
    first | (focus ((intro w hSw; (try dsimp only at hSw); go_simp); (try with_reducible rfl); done)) | fail
    try simp only [Act.put, List.getElem_toArray, List.getElem_cons_zero, List.getElem_cons_succ, List.setIfInBounds_toArray, List.set_cons_zero, List.set_cons_succ]
    refine wpAnyH_take (i := 4) (v := undef) rfl (by kernel_rfl) (by kernel_rfl) (by kernel_rfl) (fun _ _ _ h => h) (Or.inr ⟨by rfl, rfl⟩) (by assumption) ?_
    try simp only [Act.put, List.getElem_toArray, List.getElem_cons_zero, List.getElem_cons_succ, List.setIfInBounds_toArray, List.set_cons_zero, List.set_cons_succ]
    refine wpAnyH_take (i := 5) (v := undef) rfl (by kernel_rfl) (by kernel_rfl) (by kernel_rfl) (fun _ _ _ h => h) (Or.inr ⟨by rfl, rfl⟩) (by assumption) ?_
    try simp only [Act.put, List.getElem_toArray, List.getElem_cons_zero, List.getElem_cons_succ, List.setIfInBounds_toArray, List.set_cons_zero, List.set_cons_succ]
    refine wpAnyH_take (i := 6) (v := undef) rfl (by kernel_rfl) (by kernel_rfl) (by kernel_rfl) (fun _ _ _ h => h) (Or.inr ⟨by rfl, rfl⟩) (by assumption) ?_
    try simp only [Act.put, List.getElem_toArray, List.getElem_cons_zero, List.getElem_cons_succ, List.setIfInBounds_toArray, List.set_cons_zero, List.set_cons_succ]
    refine wpAnyH_take (i := 7) (v := undef) rfl (by kernel_rfl) (by kernel_rfl) (by kernel_rfl) (fun _ _ _ h => h) (Or.inr ⟨by rfl, rfl⟩) (by assumption) ?_
    try simp only [Act.put, List.getElem_toArray, List.getElem_cons_zero, List.getElem_cons_succ, List.setIfInBounds_toArray, List.set_cons_zero, List.set_cons_succ]
    refine wpAnyH_take (i := 8) (v := undef) rfl (by kernel_rfl) (by kernel_rfl) (by kernel_rfl) (fun _ _ _ h => h) (Or.inr ⟨by rfl, rfl⟩) (by assumption) ?_
    try simp only [Act.put, List.getElem_toArray, List.getElem_cons_zero, List.getElem_cons_succ, List.setIfInBounds_toArray, List.set_cons_zero, List.set_cons_succ]
    refine wpAnyH_take (i := 9) (v := undef) rfl (by kernel_rfl) (by kernel_rfl) (by kernel_rfl) (fun _ _ _ h => h) (Or.inr ⟨by rfl, rfl⟩) (by assumption) ?_
    try simp only [Act.put, List.getElem_toArray, List.getElem_cons_zero, List.getElem_cons_succ, List.setIfInBounds_toArray, List.set_cons_zero, List.set_cons_succ]
    refine wpAnyH_take (i := 10) (v := undef) rfl (by kernel_rfl) (by kernel_rfl) (by kernel_rfl) (fun _ _ _ h => h) (Or.inr ⟨by rfl, rfl⟩) (by assumption) ?_
    try simp only [Act.put, List.getElem_toArray, List.getElem_cons_zero, List.getElem_cons_succ, List.setIfInBounds_toArray, List.set_cons_zero, List.set_cons_succ]
    refine wpAnyH_take (i := 11) (v := undef) rfl (by kernel_rfl) (by kernel_rfl) (by kernel_rfl) (fun _ _ _ h => h) (Or.inr ⟨by rfl, rfl⟩) (by assumption) ?_
    try simp only [Act.put, List.getElem_toArray, List.getElem_cons_zero, List.getElem_cons_succ, List.setIfInBounds_toArray, List.set_cons_zero, List.set_cons_succ]
    refine wpAnyH_take (i := 12) (v := ?_) rfl (by kernel_rfl) (by kernel_rfl) (by kernel_rfl) (fun _ _ _ h => h) (Or.inl ⟨by rfl, ?_⟩) (by assumption) ?_
    rotate_left
    first | (focus ((intro w hSw; (try dsimp only at hSw); go_simp); (try with_reducible rfl); done)) | fail
    try simp only [Act.put, List.getElem_toArray, List.getElem_cons_zero, List.getElem_cons_succ, List.setIfInBounds_toArray, List.set_cons_zero, List.set_cons_succ]
    refine wpAnyH_done (by kernel_rfl) ?_ _
    go_wp2
    go_ret2
    exact HE.out _ (B0.out.drew.trans (below_of_le b1 (show N ≤ W.heap.size by have := HS.out; omega)))
  · rw [hr] at CR
    simp only [Bool.true_and]
    clear hr
    by_cases hlt : q + 1 = s
    · have hd : decide (q + 1 = s) = true := decide_eq_true hlt
      have HE := Lib.hid (fun (W : World) (b : Below N w W) (A' : Option Addr) (c' : Nat) (h : MsAt W A' T) (hk : ∀ k, bl A' = some k → N ≤ k) => (show MsB w A T true (.returned (.tuple #[.slice A' T.length c', .bool true])) W from ⟨A', c', rfl, h, fun k hh => .inr (by rw [hN]; exact hk k hh), by rw [hN]; exact b⟩))
      simp only [hd, if_true]
      subst hlt
      go_enter Try.func19, Try.ntmps19
      go_wp2_with fail
      generalize (w.alloc (.cells #[.int .i64 d, .int .i64 i, .int .i64 (q + 1)] 27)) = W at *
      refine wp_region_held_drew (S := (fun W => W.cell? ⟨N, 0, none⟩ = some (.int .i64 d) ∧ W.cell? ⟨N, 1, none⟩ = some (.int .i64 i) ∧ W.cell? ⟨N, 2, none⟩ = some (.int .i64 (q + 1)))) (by kernel_rfl) ?_ (fun hHeld => ?_)
      · (try dsimp only); exact H.out
      refine wpAnyH_take (i := 0) (v := ?_) rfl (by kernel_rfl) (by kernel_rfl) (by kernel_rfl) (fun _ _ _ h => h) (Or.inl ⟨by rfl, ?_⟩) (by assumption) ?_
      rotate_left
      first | (focus ((intro w hSw; (try dsimp only at hSw); go_simp); (try with_reducible rfl); done)) | fail
      try simp only [Act.put, List.getElem_toArray, List.getElem_cons_zero, List.setIfInBounds_toArray, List.set_cons_zero, List.set_cons_succ]
      refine wpAnyH_ready (rs := [1]) (by kernel_rfl) (by simp) ?_
      refine AllReadyH.cons rfl (fun K hK => ?_) AllReadyH.nil
      go_simp
      refine (CR.out _).mono ?_; rintro e w1 ⟨rfl, b1⟩
      go_wp2_with fail
      refine hK.out _ _ ?_ (fun hHeld => ?_)
      · (try dsimp only); exact C3.up hHeld (show N < W.heap.size by have := HS.out; omega) b1
      clear hK K
      try simp only [Act.put, List.getElem_toArray, List.getElem_cons_zero, List.getElem_cons_succ, List.setIfInBounds_toArray, List.set_cons_zero, List.set_cons_succ]
      have hs1 : N < w1.heap.size := by have := HS.out; have := b1.size; simp only [World.drew] at this; omega
      refine wpAnyH_take (i := 2) (v := ?_) rfl (by kernel_rfl) (by kernel_rfl) (by kernel_rfl) (fun _ _ _ h => h) (Or.inl ⟨by rfl, ?_⟩) (by assumption) ?_
      rotate_left
      first | (focus ((intro w hSw; (try dsimp only at hSw); go_simp); (try with_reducible rfl); done)) | fail
      try simp only [Act.put, List.getElem_toArray, List.getElem_cons_zero, List.getElem_cons_succ, List.setIfInBounds_toArray, List.set_cons_zero, List.set_cons_succ]
      refine wpAnyH_take (i := 3) (v := ?_) rfl (by kernel_rfl) (by kernel_rfl) (by kernel_rfl) (fun _ _ _ h => h) (Or.inl ⟨by rfl, ?_⟩) (by assumption) ?_
      rotate_left
      first | (focus ((intro w hSw; (try dsimp only at hSw); go_simp); (try with_reducible rfl); done)) | fail
      try simp only [Act.put, List.getElem_toArray, List.getElem_cons_zero, List.getElem_cons_succ, List.setIfInBounds_toArray, List.set_cons_zero, List.set_cons_succ]
      refine wpAnyH_take (i := 4) (v := ?_) rfl (by kernel_rfl) (by kernel_rfl) (by kernel_rfl) (fun _ _ _ h => h) (Or.inl ⟨by rfl, ?_⟩) (by assumption) ?_
      rotate_left
      first | (focus ((intro w hSw; (try dsimp only at hSw); go_simp); (try with_reducible rfl); done)) | fail
      try simp only [Act.put, List.getElem_toArray, List.getElem_cons_zero, List.getElem_cons_succ, List.setIfInBounds_toArray, List.set_cons_zero, List.set_cons_succ]
      refine wpAnyH_take (i := 5) (v := ?_) rfl (by kernel_rfl) (by kernel_rfl) (by kernel_rfl) (fun _ _ _ h => h) (Or.inl ⟨by rfl, ?_⟩) (by assumption) ?_
      rotate_left
      first | (focus ((intro w hSw; (try dsimp only at hSw); go_simp); (try with_reducible rfl); done)) | fail
      try simp only [Act.put, List.getElem_toArray, List.getElem_cons_zero, List.getElem_cons_succ, List.setIfInBounds_toArray, List.set_cons_zero, List.set_cons_succ]
      refine wpAnyH_take (i := 6) (v := ?_) rfl (by kernel_rfl) (by kernel_rfl) (by kernel_rfl) (fun _ _ _ h => h) (Or.inl ⟨by rfl, ?_⟩) (by assumption) ?_
      rotate_left
      first | (focus ((intro w hSw; (try dsimp only at hSw); go_simp); (try with_reducible rfl); done)) | fail
      try simp only [Act.put, List.getElem_toArray, List.getElem_cons_zero, List.getElem_cons_succ, List.setIfInBounds_toArray, List.set_cons_zero, List.set_cons_succ]
      refine wpAnyH_take (i := 9) (v := ?_) rfl (by kernel_rfl) (by kernel_rfl) (by kernel_rfl) (fun _ _ _ h => h) (Or.inl ⟨by rfl, ?_⟩) (by assumption) ?_
      rotate_left
      first | (focus ((intro w hSw; (try dsimp only at hSw); go_simp); (try with_reducible rfl); done)) | fail
      try simp only [Act.put, List.getElem_toArray, List.getElem_cons_zero, List.getElem_cons_succ, List.setIfInBounds_toArray, List.set_cons_zero, List.set_cons_succ]
      refine wpAnyH_take (i := 10) (v := ?_) rfl (by kernel_rfl) (by kernel_rfl) (by kernel_rfl) (fun _ _ _ h => h) (Or.inl ⟨by rfl, ?_⟩) (by assumption) ?_
      rotate_left
      first | (focus ((intro w hSw; (try dsimp only at hSw); go_simp); (try with_reducible rfl); done)) | fail
      try simp only [Act.put, List.getElem_toArray, List.getElem_cons_zero, List.getElem_cons_succ, List.setIfInBounds_toArray, List.set_cons_zero, List.set_cons_succ]
      refine wpAnyH_ready (rs := [7]) (by kernel_rfl) (by simp) ?_
      refine AllReadyH.cons rfl (fun K hK => ?_) AllReadyH.nil
      go_simp
      refine (CG.out _ ((MsAt.up HV.out (Below.drew (Below.refl _ _))).up b1)).mono ?_; rintro e w2 ⟨rfl, b2⟩
      go_wp2_with fail
      refine hK.out _ _ ?_ (fun hHeld => ?_)
      · (try dsimp only); exact C3.up hHeld hs1 b2
      clear hK K
      try simp only [Act.put, List.getElem_toArray, List.getElem_cons_zero, List.getElem_cons_succ, List.setIfInBounds_toArray, List.set_cons_zero, List.set_cons_succ]
      refine wpAnyH_take (i := 8) (v := ?_) rfl (by kernel_rfl) (by kernel_rfl) (by kernel_rfl) (fun _ _ _ h => h) (Or.inl ⟨by rfl, ?_⟩) (by assumption) ?_
      rotate_left
      first | (focus ((intro w hSw; (try dsimp only at hSw); go_simp); (try with_reducible rfl); done)) | fail
      try simp only [Act.put, List.getElem_toArray, List.getElem_cons_zero, List.getElem_cons_succ, List.setIfInBounds_toArray, List.set_cons_zero, List.set_cons_succ]
      refine wpAnyH_take (i := 11) (v := ?_) rfl (by kernel_rfl) (by kernel_rfl) (by kernel_rfl) (fun _ _ _ h => h) (Or.inl ⟨by rfl, ?_⟩) (by assumption) ?_
      rotate_left
      first | (focus ((intro w hSw; (try dsimp only at hSw); go_simp); (try with_reducible rfl); done)) | fail
      try simp only [Act.put, List.getElem_toArray, List.getElem_cons_zero, List.getElem_cons_succ, List.setIfInBounds_toArray, List.set_cons_zero, List.set_cons_succ]
      refine wpAnyH_take (i := 12) (v := ?_) rfl (by kernel_rfl) (by kernel_rfl) (by kernel_rfl) (fun _ _ _ h => h) (Or.inl ⟨by rfl, ?_⟩) (by assumption) ?_
      rotate_left
      first | (focus ((intro w hSw; (try dsimp only at hSw); go_simp); (try with_reducible rfl); done)) | fail
      try simp only [Act.put, List.getElem_toArray, List.getElem_cons_zero, List.getElem_cons_succ, List.setIfInBounds_toArray, List.set_cons_zero, List.set_cons_succ]
      refine wpAnyH_done (by kernel_rfl) ?_ _
      have HV2 := Lib.hid (And.intro (((MsAt.up HV.out (Below.drew (Below.refl _ _))).up b1).up b2) ((B0.out.drew.trans (below_of_le b1 (show N ≤ W.heap.size by have := HS.out; omega))).trans (below_of_le b2 (by omega))))
      have hN2 : N ≤ w2.heap.size := by have := b2.size; omega
      obtain ⟨k0, k1, k2⟩ := hHeld
      clear b1 b2
      go_wp2_with fail
      refine (CS.out _ HV2.out.1).mono ?_; rintro e w3 ⟨A3, c3, rfl, o3, b3⟩
      have HF := Lib.hid (HE.out w3 (HV2.out.2.trans (below_of_le b3 hN2)) A3 c3 (MsAt.own o3) (fun k hk => Nat.le_trans hN2 (o3.bl_lo k hk)))
      clear o3 b3
      go_wp2
      go_ret2
      exact HF.out
    · have hd : decide (q + 1 = s) = false := decide_eq_false hlt
      have he : (q + 1 != s) = true := by simp; omega
      simp only [hd, Bool.false_eq_true, if_false]
      go_enter Try.func19, Try.ntmps19
      go_wp2_with fail
      generalize (w.alloc (.cells #[.int .i64 d, .int .i64 i, .int .i64 s] 27)) = W at *
      refine wp_region_held_drew (S := (fun W => W.cell? ⟨N, 0, none⟩ = some (.int .i64 d) ∧ W.cell? ⟨N, 1, none⟩ = some (.int .i64 i) ∧ W.cell? ⟨N, 2, none⟩ = some (.int .i64 s))) (by kernel_rfl) ?_ (fun hHeld => ?_)
      · (try dsimp only); exact H.out
      refine wpAnyH_take (i := 0) (v := ?_) rfl (by kernel_rfl) (by kernel_rfl) (by kernel_rfl) (fun _ _ _ h => h) (Or.inl ⟨by rfl, ?_⟩) (by assumption) ?_
      rotate_left
      first | (focus ((intro w hSw; (try dsimp only at hSw); go_simp); (try with_reducible rfl); done)) | fail
      try simp only [Act.put, List.getElem_toArray, List.getElem_cons_zero, List.setIfInBounds_toArray, List.set_cons_zero, List.set_cons_succ]
      refine wpAnyH_ready (rs := [1]) (by kernel_rfl) (by simp) ?_
      refine AllReadyH.cons rfl (fun K hK => ?_) AllReadyH.nil
      go_simp
      refine (CR.out _).mono ?_; rintro e w1 ⟨rfl, b1⟩
      go_wp2_with fail
      refine hK.out _ _ ?_ (fun hHeld => ?_)
      · (try dsimp only); exact C3.up hHeld (show N < W.heap.size by have := HS.out; omega) b1
      clear hK K
      try simp only [Act.put, List.getElem_toArray, List.getElem_cons_zero, List.getElem_cons_succ, List.setIfInBounds_toArray, List.set_cons_zero, List.set_cons_succ]
      have hs1 : N < w1.heap.size := by have := HS.out; have := b1.size; simp only [World.drew] at this; omega
      refine wpAnyH_take (i := 2) (v := ?_) rfl (by kernel_rfl) (by kernel_rfl) (by kernel_rfl) (fun _ _ _ h => h) (Or.inl ⟨by rfl, ?_⟩) (by assumption) ?_
      rotate_left
      first | (focus ((intro w hSw; (try dsimp only at hSw); go_simp); (try with_reducible rfl); done)) | fail
      try simp only [Act.put, List.getElem_toArray, List.getElem_cons_zero, List.getElem_cons_succ, List.setIfInBounds_toArray, List.set_cons_zero, List.set_cons_succ]
      refine wpAnyH_take (i := 3) (v := ?_) rfl (by kernel_rfl) (by kernel_rfl) (by kernel_rfl) (fun _ _ _ h => h) (Or.inl ⟨by rfl, ?_⟩) (by assumption) ?_
      rotate_left
      first | (focus ((intro w hSw; (try dsimp only at hSw); go_simp); (try with_reducible rfl); done)) | fail
      try simp only [Act.put, List.getElem_toArray, List.getElem_cons_zero, List.getElem_cons_succ, List.setIfInBounds_toArray, List.set_cons_zero, List.set_cons_succ]
      refine wpAnyH_take (i := 4) (v := ?_) rfl (by kernel_rfl) (by kernel_rfl) (by kernel_rfl) (fun _ _ _ h => h) (Or.inl ⟨by rfl, ?_⟩) (by assumption) ?_
      rotate_left
      first | (focus ((intro w hSw; (try dsimp only at hSw); go_simp); (try with_reducible rfl); done)) | fail
      try simp only [Act.put, List.getElem_toArray, List.getElem_cons_zero, List.getElem_cons_succ, List.setIfInBounds_toArray, List.set_cons_zero, List.set_cons_succ]
      refine wpAnyH_take (i := 5) (v := ?_) rfl (by kernel_rfl) (by kernel_rfl) (by kernel_rfl) (fun _ _ _ h => h) (Or.inl ⟨by rfl, ?_⟩) (by assumption) ?_
      rotate_left
      first | (focus ((intro w hSw; (try dsimp only at hSw); go_simp); (try with_reducible rfl); done)) | fail
      try simp only [Act.put, List.getElem_toArray, List.getElem_cons_zero, List.getElem_cons_succ, List.setIfInBounds_toArray, List.set_cons_zero, List.set_cons_succ]
      refine wpAnyH_take (i := 6) (v := ?_) rfl (by kernel_rfl) (by kernel_rfl) (by kernel_rfl) (fun _ _ _ h => h) (Or.inl ⟨by rfl, ?_⟩) (by assumption) ?_
      rotate_left
      first | (focus ((intro w hSw; (try dsimp only at hSw); go_simp); (try with_reducible rfl); done)) | fail
      try simp only [Act.put, List.getElem_toArray, List.getElem_cons_zero, List.getElem_cons_succ, List.setIfInBounds_toArray, List.set_cons_zero, List.set_cons_succ]
      refine wpAnyH_take (i := 9) (v := ?_) rfl (by kernel_rfl) (by kernel_rfl) (by kernel_rfl) (fun _ _ _ h => h) (Or.inl ⟨by rfl, ?_⟩) (by assumption) ?_
      rotate_left
      first | (focus ((intro w hSw; (try dsimp only at hSw); go_simp); (try with_reducible rfl); done)) | fail
      try simp only [Act.put, List.getElem_toArray, List.getElem_cons_zero, List.getElem_cons_succ, List.setIfInBounds_toArray, List.set_cons_zero, List.set_cons_succ]
      refine wpAnyH_take (i := 10) (v := ?_) rfl (by kernel_rfl) (by kernel_rfl) (by kernel_rfl) (fun _ _ _ h => h) (Or.inl ⟨by rfl, ?_⟩) (by assumption) ?_
      rotate_left
      first | (focus ((intro w hSw; (try dsimp only at hSw); go_simp); (try with_reducible rfl); done)) | fail
      try simp only [Act.put, List.getElem_toArray, List.getElem_cons_zero, List.getElem_cons_succ, List.setIfInBounds_toArray, List.set_cons_zero, List.set_cons_succ]
      refine wpAnyH_ready (rs := [7]) (by kernel_rfl) (by simp) ?_
      refine AllReadyH.cons rfl (fun K hK => ?_) AllReadyH.nil
      go_simp
      refine (CG.out _ ((MsAt.up HV.out (Below.drew (Below.refl _ _))).up b1)).mono ?_; rintro e w2 ⟨rfl, b2⟩
      go_wp2_with fail
      refine hK.out _ _ ?_ (fun hHeld => ?_)
      · (try dsimp only); exact C3.up hHeld hs1 b2
      clear hK K
      try simp only [Act.put, List.getElem_toArray, List.getElem_cons_zero, List.getElem_cons_succ, List.setIfInBounds_toArray, List.set_cons_zero, List.set_cons_succ]
      refine wpAnyH_take (i := 8) (v := ?_) rfl (by kernel_rfl) (by kernel_rfl) (by kernel_rfl) (fun _ _ _ h => h) (Or.inl ⟨by rfl, ?_⟩) (by assumption) ?_
      rotate_left
      first | (focus ((intro w hSw; (try dsimp only at hSw); go_simp); (try with_reducible rfl); done)) | fail
      try simp only [Act.put, List.getElem_toArray, List.getElem_cons_zero, List.getElem_cons_succ, List.setIfInBounds_toArray, List.set_cons_zero, List.set_cons_succ]
      refine wpAnyH_take (i := 11) (v := ?_) rfl (by kernel_rfl) (by kernel_rfl) (by kernel_rfl) (fun _ _ _ h => h) (Or.inl ⟨by rfl, ?_⟩) (by assumption) ?_
      rotate_left
      first | (focus ((intro w hSw; (try dsimp only at hSw); go_simp); (try with_reducible rfl); done)) | fail
      try simp only [Act.put, List.getElem_toArray, List.getElem_cons_zero, List.getElem_cons_succ, List.setIfInBounds_toArray, List.set_cons_zero, List.set_cons_succ]
      refine wpAnyH_take (i := 12) (v := ?_) rfl (by kernel_rfl) (by kernel_rfl) (by kernel_rfl) (fun _ _ _ h => h) (Or.inl ⟨by rfl, ?_⟩) (by assumption) ?_
      rotate_left
      first | (focus ((intro w hSw; (try dsimp only at hSw); go_simp); (try with_reducible rfl); done)) | fail
      try simp only [Act.put, List.getElem_toArray, List.getElem_cons_zero, List.getElem_cons_succ, List.setIfInBounds_toArray, List.set_cons_zero, List.set_cons_succ]
      refine wpAnyH_done (by kernel_rfl) ?_ _
      have HF := Lib.hid (HE.out w2 ((B0.out.drew.trans (below_of_le b1 (show N ≤ W.heap.size by have := HS.out; omega))).trans (below_of_le b2 (by omega))))
      clear b1 b2
      go_wp2
      go_ret2
      exact HF.out
/-- Some marks, read in whatever memory. -/
def MsEnd (w : World) (A0 : Option Addr) (L : List Dt) (e : Ending) (w' : World) : Prop := ∃ A c, e = .returned (.slice A L.length c) ∧ MsAt w' A L ∧ (∀ k, bl A = some k → bl A0 = some k ∨ w.heap.size ≤ k) ∧ Below w.heap.size w w'
set_option maxHeartbeats 1000000 in
theorem rjoin17_any (w : World) (A A' : Option Addr) (c c' : Nat) (L O : List Dt) (hr : MsAt w A L) (ho : MsAt w A' O) (hv : Vw L) (hn : O.length ≤ 9223372036854775807) :
    Calls Try.prog 39 #[.slice A L.length c, .slice A' O.length c'] w (MsEnd w A (rjoin L O)) := by
  have CR := Lib.hid (fun (W : World) (A : Option Addr) (c : Nat) (L : List Dt) (a : Ac) (n : Int) (hr : MsAt W A L) (hv : Vw L) => rraise17_any W A c L a n hr (by have := hv.len; omega))
  have R0 := Lib.hid (And.intro hr (Below.refl w.heap.size w))
  have HO := Lib.hid ho
  have HV := Lib.hid hv
  generalize hlen : O.length = n at *
  have HL := Lib.hid hlen
  have hl0 : ∃ l0, L.length = l0 := ⟨_, rfl⟩
  obtain ⟨l0, hl0⟩ := hl0
  have HL0 := Lib.hid hl0
  rw [hl0]
  generalize hN : w.heap.size = N at *
  unfold acV at CR
  clear hr ho hlen hv hl0
  go_enter Try.func39, Try.ntmps39
  go_wp2_with fail
  go_loopw [0, 5] (fun y i wr => ∃ (j : Nat) (A1 : Option Addr) (c1 : Nat), j ≤ n ∧ i = .int .i64 j ∧ y = .slice A1 (rjoin L (O.take j)).length c1 ∧ MsAt wr A1 (rjoin L (O.take j)) ∧ Below N w wr ∧ (∀ k, bl A1 = some k → bl A = some k ∨ N ≤ k)) (fun _ i _ => n - (intOf i).toNat)
  case atStart => exact ⟨0, A, c, by omega, rfl, by rw [← HL0.out]; rfl, R0.out.1, R0.out.2, fun k h => .inl h⟩
  case round =>
    obtain ⟨j, A1, c1, hj, rfl, rfl, hM, hb, hk1⟩ := hrel
    have HK1 := Lib.hid hk1
    clear hk1
    have HM := Lib.hid (And.intro hM hb)
    clear hM hb R0
    by_cases hlt : j < n
    · obtain ⟨x, hx⟩ : ∃ x, O[j]? = some x := ⟨O[j]'(by have := HL.out; omega), List.getElem?_eq_getElem _⟩
      obtain ⟨b0, o0, hA, hb0, k0, k1, k2⟩ := (Ds.below (hN ▸ HO.out : Ds w N A' O) HM.out.2).at_ hx
      have htk := Lib.hid (show rjoin L (O.take (j + 1)) = raiseL (rjoin L (O.take j)) x.1 x.2 by
        rw [List.take_add_one, hx, raiseL_eq (HV.out.join _)]; exact rjoin_snoc _ _ _)
      have CX := Lib.hid (fun (W : World) (A1 : Option Addr) (h : MsAt W A1 (rjoin L (O.take j))) => CR.out W A1 c1 (rjoin L (O.take j)) x.1 x.2 h (HV.out.join _))
      obtain ⟨⟨d, i⟩, s⟩ := x
      simp only at k0 k1 k2
      have HK := Lib.hid (And.intro k0 (And.intro k1 k2))
      have hNr : N ≤ wr.heap.size := by have := HM.out.2.size; omega
      clear hx k0 k1 k2
      subst hA
      simp only at CX htk
      generalize (rjoin L (O.take j)) = Lj at *
      generalize hlj : Lj.length = lj at *
      go_wp2_with fail
      refine wp_region_held_drew (S := (fun W => W.cell? ⟨b0, o0 + j * 3, none⟩ = some (.int .i64 d) ∧ W.cell? ⟨b0, o0 + j * 3 + 1, none⟩ = some (.int .i64 i) ∧ W.cell? ⟨b0, o0 + j * 3 + 2, none⟩ = some (.int .i64 s))) (by kernel_rfl) ?_ (fun hHeld => ?_)
      · (try dsimp only); exact HK.out
      refine wpAnyH_take (i := 0) (v := ?_) rfl (by kernel_rfl) (by kernel_rfl) (by kernel_rfl) (fun _ _ _ h => h) (Or.inl ⟨by rfl, ?_⟩) (by assumption) ?_
      rotate_left
      first | (focus ((intro w hSw; (try dsimp only at hSw); go_simp); (try with_reducible rfl); done)) | fail
      try simp only [Act.put, List.getElem_toArray, List.getElem_cons_zero, List.setIfInBounds_toArray, List.set_cons_zero, List.set_cons_succ]
      refine wpAnyH_take (i := 1) (v := ?_) rfl (by kernel_rfl) (by kernel_rfl) (by kernel_rfl) (fun _ _ _ h => h) (Or.inl ⟨by rfl, ?_⟩) (by assumption) ?_
      rotate_left
      first | (focus ((intro w hSw; (try dsimp only at hSw); go_simp); (try with_reducible rfl); done)) | fail
      try simp only [Act.put, List.getElem_toArray, List.getElem_cons_zero, List.getElem_cons_succ, List.setIfInBounds_toArray, List.set_cons_zero, List.set_cons_succ]
      refine wpAnyH_take (i := 2) (v := ?_) rfl (by kernel_rfl) (by kernel_rfl) (by kernel_rfl) (fun _ _ _ h => h) (Or.inl ⟨by rfl, ?_⟩) (by assumption) ?_
      rotate_left
      first | (focus ((intro w hSw; (try dsimp only at hSw); go_simp); (try with_reducible rfl); done)) | fail
      try simp only [Act.put, List.getElem_toArray, List.getElem_cons_zero, List.getElem_cons_succ, List.setIfInBounds_toArray, List.set_cons_zero, List.set_cons_succ]
      refine wpAnyH_take (i := 3) (v := ?_) rfl (by kernel_rfl) (by kernel_rfl) (by kernel_rfl) (fun _ _ _ h => h) (Or.inl ⟨by rfl, ?_⟩) (by assumption) ?_
      rotate_left
      first | (focus ((intro w hSw; (try dsimp only at hSw); go_simp); (try with_reducible rfl); done)) | fail
      try simp only [Act.put, List.getElem_toArray, List.getElem_cons_zero, List.getElem_cons_succ, List.setIfInBounds_toArray, List.set_cons_zero, List.set_cons_succ]
      refine wpAnyH_take (i := 4) (v := ?_) rfl (by kernel_rfl) (by kernel_rfl) (by kernel_rfl) (fun _ _ _ h => h) (Or.inl ⟨by rfl, ?_⟩) (by assumption) ?_
      rotate_left
      first | (focus ((intro w hSw; (try dsimp only at hSw); go_simp); (try with_reducible rfl); done)) | fail
      try simp only [Act.put, List.getElem_toArray, List.getElem_cons_zero, List.getElem_cons_succ, List.setIfInBounds_toArray, List.set_cons_zero, List.set_cons_succ]
      refine wpAnyH_take (i := 5) (v := ?_) rfl (by kernel_rfl) (by kernel_rfl) (by kernel_rfl) (fun _ _ _ h => h) (Or.inl ⟨by rfl, ?_⟩) (by assumption) ?_
      rotate_left
      first | (focus ((intro w hSw; (try dsimp only at hSw); go_simp); (try with_reducible rfl); done)) | fail
      try simp only [Act.put, List.getElem_toArray, List.getElem_cons_zero, List.getElem_cons_succ, List.setIfInBounds_toArray, List.set_cons_zero, List.set_cons_succ]
      refine wpAnyH_take (i := 6) (v := ?_) rfl (by kernel_rfl) (by kernel_rfl) (by kernel_rfl) (fun _ _ _ h => h) (Or.inl ⟨by rfl, ?_⟩) (by assumption) ?_
      rotate_left
      first | (focus ((intro w hSw; (try dsimp only at hSw); go_simp); (try with_reducible rfl); done)) | fail
      try simp only [Act.put, List.getElem_toArray, List.getElem_cons_zero, List.getElem_cons_succ, List.setIfInBounds_toArray, List.set_cons_zero, List.set_cons_succ]
      refine wpAnyH_take (i := 7) (v := ?_) rfl (by kernel_rfl) (by kernel_rfl) (by kernel_rfl) (fun _ _ _ h => h) (Or.inl ⟨by rfl, ?_⟩) (by assumption) ?_
      rotate_left
      first | (focus ((intro w hSw; (try dsimp only at hSw); go_simp); (try with_reducible rfl); done)) | fail
      try simp only [Act.put, List.getElem_toArray, List.getElem_cons_zero, List.getElem_cons_succ, List.setIfInBounds_toArray, List.set_cons_zero, List.set_cons_succ]
      refine wpAnyH_take (i := 8) (v := ?_) rfl (by kernel_rfl) (by kernel_rfl) (by kernel_rfl) (fun _ _ _ h => h) (Or.inl ⟨by rfl, ?_⟩) (by assumption) ?_
      rotate_left
      first | (focus ((intro w hSw; (try dsimp only at hSw); go_simp); (try with_reducible rfl); done)) | fail
      try simp only [Act.put, List.getElem_toArray, List.getElem_cons_zero, List.getElem_cons_succ, List.setIfInBounds_toArray, List.set_cons_zero, List.set_cons_succ]
      refine wpAnyH_take (i := 9) (v := ?_) rfl (by kernel_rfl) (by kernel_rfl) (by kernel_rfl) (fun _ _ _ h => h) (Or.inl ⟨by rfl, ?_⟩) (by assumption) ?_
      rotate_left
      first | (focus ((intro w hSw; (try dsimp only at hSw); go_simp); (try with_reducible rfl); done)) | fail
      try simp only [Act.put, List.getElem_toArray, List.getElem_cons_zero, List.getElem_cons_succ, List.setIfInBounds_toArray, List.set_cons_zero, List.set_cons_succ]
      refine wpAnyH_take (i := 10) (v := ?_) rfl (by kernel_rfl) (by kernel_rfl) (by kernel_rfl) (fun _ _ _ h => h) (Or.inl ⟨by rfl, ?_⟩) (by assumption) ?_
      rotate_left
      first | (focus ((intro w hSw; (try dsimp only at hSw); go_simp); (try with_reducible rfl); done)) | fail
      try simp only [Act.put, List.getElem_toArray, List.getElem_cons_zero, List.getElem_cons_succ, List.setIfInBounds_toArray, List.set_cons_zero, List.set_cons_succ]
      refine wpAnyH_ready (rs := [11]) (by kernel_rfl) (by simp) ?_
      refine AllReadyH.cons rfl (fun K hK => ?_) AllReadyH.nil
      go_simp
      refine (CX.out _ _ (HM.out.1.up (Below.drew (Below.refl _ _)))).mono ?_; rintro e w5 ⟨A5, c5, rfl, hM5, hk5, b5⟩
      go_wp2_with fail
      refine hK.out _ _ ?_ (fun hHeld => ?_)
      · (try dsimp only); exact ⟨(b5.cell (by show b0 < wr.heap.size; omega)).trans hHeld.1, (b5.cell (by show b0 < wr.heap.size; omega)).trans hHeld.2.1, (b5.cell (by show b0 < wr.heap.size; omega)).trans hHeld.2.2⟩
      clear hK K
      try simp only [Act.put, List.getElem_toArray, List.getElem_cons_zero, List.getElem_cons_succ, List.setIfInBounds_toArray, List.set_cons_zero, List.set_cons_succ]
      have HF := Lib.hid (And.intro hM5 (And.intro (HM.out.2.drew.trans (below_of_le b5 hNr)) (show ∀ k, bl A5 = some k → bl A = some k ∨ N ≤ k from fun k hk => by
        rcases hk5 k hk with h | h
        · exact HK1.out k h
        · exact .inr (Nat.le_trans hNr h))))
      clear hM5 b5 hk5
      refine wpAnyH_take (i := 12) (v := ?_) rfl (by kernel_rfl) (by kernel_rfl) (by kernel_rfl) (fun _ _ _ h => h) (Or.inl ⟨by rfl, ?_⟩) (by assumption) ?_
      rotate_left
      first | (focus ((intro w hSw; (try dsimp only at hSw); go_simp); (try with_reducible rfl); done)) | fail
      try simp only [Act.put, List.getElem_toArray, List.getElem_cons_zero, List.getElem_cons_succ, List.setIfInBounds_toArray, List.set_cons_zero, List.set_cons_succ]
      refine wpAnyH_take (i := 13) (v := ?_) rfl (by kernel_rfl) (by kernel_rfl) (by kernel_rfl) (fun _ _ _ h => h) (Or.inl ⟨by rfl, ?_⟩) (by assumption) ?_
      rotate_left
      first | (focus ((intro w hSw; (try dsimp only at hSw); go_simp); (try with_reducible rfl); done)) | fail
      try simp only [Act.put, List.getElem_toArray, List.getElem_cons_zero, List.getElem_cons_succ, List.setIfInBounds_toArray, List.set_cons_zero, List.set_cons_succ]
      refine wpAnyH_take (i := 14) (v := ?_) rfl (by kernel_rfl) (by kernel_rfl) (by kernel_rfl) (fun _ _ _ h => h) (Or.inl ⟨by rfl, ?_⟩) (by assumption) ?_
      rotate_left
      first | (focus ((intro w hSw; (try dsimp only at hSw); go_simp); (try with_reducible rfl); done)) | fail
      try simp only [Act.put, List.getElem_toArray, List.getElem_cons_zero, List.getElem_cons_succ, List.setIfInBounds_toArray, List.set_cons_zero, List.set_cons_succ]
      refine wpAnyH_take (i := 15) (v := ?_) rfl (by kernel_rfl) (by kernel_rfl) (by kernel_rfl) (fun _ _ _ h => h) (Or.inl ⟨by rfl, ?_⟩) (by assumption) ?_
      rotate_left
      first | (focus ((intro w hSw; (try dsimp only at hSw); go_simp); (try with_reducible rfl); done)) | fail
      try simp only [Act.put, List.getElem_toArray, List.getElem_cons_zero, List.getElem_cons_succ, List.setIfInBounds_toArray, List.set_cons_zero, List.set_cons_succ]
      refine wpAnyH_take (i := 16) (v := ?_) rfl (by kernel_rfl) (by kernel_rfl) (by kernel_rfl) (fun _ _ _ h => h) (Or.inl ⟨by rfl, ?_⟩) (by assumption) ?_
      rotate_left
      first | (focus ((intro w hSw; (try dsimp only at hSw); go_simp); (try with_reducible rfl); done)) | fail
      try simp only [Act.put, List.getElem_toArray, List.getElem_cons_zero, List.getElem_cons_succ, List.setIfInBounds_toArray, List.set_cons_zero, List.set_cons_succ]
      refine wpAnyH_done (by kernel_rfl) ?_ _
      go_wp2
      go_roundw
      case rel => exact ⟨j + 1, A5, c5, by omega, by go_num, by rw [htk.out], by rw [htk.out]; exact HF.out.1, HF.out.2.1, HF.out.2.2⟩
      case measure => simp [intOf]; omega
    · have hj' : j = n := by omega
      subst hj'
      have ht := Lib.hid (show O.take j = O by rw [List.take_of_length_le (by have := HL.out; omega)])
      have HE := Lib.hid (show MsEnd w A (rjoin L O) (.returned (.slice A1 (rjoin L (O.take j)).length c1)) wr from ⟨A1, c1, by rw [ht.out], by have := HM.out.1; rw [ht.out] at this; exact this, by rw [hN]; exact HK1.out, by rw [hN]; exact HM.out.2⟩)
      go_wp2
      go_ret
      exact HE.out
end Go.Proofs.Ytailbppddnegoaa
/- Layer 17, the document's marks: Meet, Covers. -/
namespace Go.Proofs.Ytailbppddnegoaa
open Go.RowKit
set_option linter.unusedVariables false
set_option maxRecDepth 100000
attribute [local go_sem ↓] Go.wp_at_zero Go.wp_at_succ

theorem rcov_step {L O : List Dt} {j : Nat} {x : Dt} (hx : O[j]? = some x) (h : rcov L (O.take j) = true) : rcov L (O.take (j + 1)) = decide (x.2 ≤ mget L x.1) := by
  rw [List.take_add_one, hx]
  unfold rcov at h ⊢
  rw [List.all_append, h]
  simp
theorem rcov_no {L O : List Dt} {x : Dt} (hx : x ∈ O) : x.2 ≤ mget L x.1 ∨ rcov L O = false := by
  by_cases hle : x.2 ≤ mget L x.1
  · exact .inl hle
  · refine .inr ?_
    unfold rcov
    rw [List.all_eq_false]
    exact ⟨x, hx, by simpa using hle⟩
theorem lt_not_le (q s : Int) : decide (q < s) = !decide (s ≤ q) := by
  rw [Bool.eq_iff_iff]
  simp only [decide_eq_true_eq, Bool.not_eq_true', decide_eq_false_iff_not]
  omega
/-- Three cells of a mark that lies below what has been made. -/
theorem keep3 {W W' : World} {b0 p0 p1 p2 : Nat} {x y z : Value} (hb : b0 < W.heap.size) (b : Below W.heap.size W W') (h : W.cell? ⟨b0, p0, none⟩ = some x ∧ W.cell? ⟨b0, p1, none⟩ = some y ∧ W.cell? ⟨b0, p2, none⟩ = some z) :
    W'.cell? ⟨b0, p0, none⟩ = some x ∧ W'.cell? ⟨b0, p1, none⟩ = some y ∧ W'.cell? ⟨b0, p2, none⟩ = some z :=
  ⟨(b.cell hb).trans h.1, (b.cell hb).trans h.2.1, (b.cell hb).trans h.2.2⟩
set_option maxHeartbeats 1000000 in
theorem rcovers17_any (w : World) (A A' : Option Addr) (c c' : Nat) (L O : List Dt) (hr : MsAt w A L) (ho : MsAt w A' O) (hn : L.length ≤ 9223372036854775807) (hno : O.length ≤ 9223372036854775807) :
    Calls Try.prog 37 #[.slice A L.length c, .slice A' O.length c'] w fun e w' => e = .returned (.bool (rcov L O)) ∧ Below w.heap.size w w' := by
  have CG := Lib.hid (fun (a : Ac) (W : World) (hW : MsAt W A L) => rget17_any W W.heap.size A c L a hW (Nat.le_refl _) hn)
  have R0 := Lib.hid (And.intro hr (Below.refl w.heap.size w))
  have HO := Lib.hid ho
  generalize hlen : O.length = n at *
  have HL := Lib.hid hlen
  generalize L.length = m at *
  generalize hN : w.heap.size = N at *
  unfold acV at CG
  clear hr ho hlen
  go_enter Try.func37, Try.ntmps37
  go_wp2_with fail
  go_loopw [5] (fun i wr => ∃ (j : Nat), j ≤ n ∧ i = .int .i64 j ∧ rcov L (O.take j) = true ∧ MsAt wr A L ∧ Below N w wr) (fun i _ => n - (intOf i).toNat)
  case atStart => exact ⟨0, by omega, rfl, rfl, R0.out.1, R0.out.2⟩
  case round =>
    obtain ⟨j, hj, rfl, hcv, hM, hb⟩ := hrel
    have HM := Lib.hid (And.intro hM (And.intro hb hcv))
    clear hM hb R0 hcv
    by_cases hlt : j < n
    · obtain ⟨x, hx⟩ : ∃ x, O[j]? = some x := ⟨O[j]'(by have := HL.out; omega), List.getElem?_eq_getElem _⟩
      obtain ⟨b0, o0, hA, hb0, k0, k1, k2⟩ := (Ds.below (hN ▸ HO.out : Ds w N A' O) HM.out.2.1).at_ hx
      have htk := Lib.hid (rcov_step hx HM.out.2.2)
      have hno := Lib.hid (rcov_no (L := L) (List.mem_of_getElem? hx))
      obtain ⟨⟨d, i⟩, s⟩ := x
      have hqd := lt_not_le (mget L (d, i)) s
      have CX := Lib.hid (fun (W : World) (h : MsAt W A L) => CG.out (d, i) W h)
      simp only at k0 k1 k2 htk hno
      have HK := Lib.hid (And.intro k0 (And.intro k1 k2))
      have hNr : N ≤ wr.heap.size := by have := HM.out.2.1.size; omega
      clear hx k0 k1 k2
      subst hA
      generalize mget L (d, i) = q at *
      go_wp2_with fail
      refine wp_region_held_drew (S := (fun W => W.cell? ⟨b0, o0 + j * 3, none⟩ = some (.int .i64 d) ∧ W.cell? ⟨b0, o0 + j * 3 + 1, none⟩ = some (.int .i64 i) ∧ W.cell? ⟨b0, o0 + j * 3 + 2, none⟩ = some (.int .i64 s))) (by kernel_rfl) ?_ (fun hHeld => ?_)
      · (try dsimp only); exact HK.out
      refine wpAnyH_take (i := 0) (v := ?_) rfl (by kernel_rfl) (by kernel_rfl) (by kernel_rfl) (fun _ _ _ h => h) (Or.inl ⟨by rfl, ?_⟩) (by assumption) ?_
      rotate_left
      first | (focus ((intro w hSw; (try dsimp only at hSw); go_simp); (try with_reducible rfl); done)) | fail
      try simp only [Act.put, List.getElem_toArray, List.getElem_cons_zero, List.setIfInBounds_toArray, List.set_cons_zero, List.set_cons_succ]
      refine wpAnyH_take (i := 1) (v := ?_) rfl (by kernel_rfl) (by kernel_rfl) (by kernel_rfl) (fun _ _ _ h => h) (Or.inl ⟨by rfl, ?_⟩) (by assumption) ?_
      rotate_left
      first | (focus ((intro w hSw; (try dsimp only at hSw); go_simp); (try with_reducible rfl); done)) | fail
      try simp only [Act.put, List.getElem_toArray, List.getElem_cons_zero, List.getElem_cons_succ, List.setIfInBounds_toArray, List.set_cons_zero, List.set_cons_succ]
      refine wpAnyH_take (i := 2) (v := ?_) rfl (by kernel_rfl) (by kernel_rfl) (by kernel_rfl) (fun _ _ _ h => h) (Or.inl ⟨by rfl, ?_⟩) (by assumption) ?_
      rotate_left
      first | (focus ((intro w hSw; (try dsimp only at hSw); go_simp); (try with_reducible rfl); done)) | fail
      try simp only [Act.put, List.getElem_toArray, List.getElem_cons_zero, List.getElem_cons_succ, List.setIfInBounds_toArray, List.set_cons_zero, List.set_cons_succ]
      refine wpAnyH_take (i := 3) (v := ?_) rfl (by kernel_rfl) (by kernel_rfl) (by kernel_rfl) (fun _ _ _ h => h) (Or.inl ⟨by rfl, ?_⟩) (by assumption) ?_
      rotate_left
      first | (focus ((intro w hSw; (try dsimp only at hSw); go_simp); (try with_reducible rfl); done)) | fail
      try simp only [Act.put, List.getElem_toArray, List.getElem_cons_zero, List.getElem_cons_succ, List.setIfInBounds_toArray, List.set_cons_zero, List.set_cons_succ]
      refine wpAnyH_take (i := 4) (v := ?_) rfl (by kernel_rfl) (by kernel_rfl) (by kernel_rfl) (fun _ _ _ h => h) (Or.inl ⟨by rfl, ?_⟩) (by assumption) ?_
      rotate_left
      first | (focus ((intro w hSw; (try dsimp only at hSw); go_simp); (try with_reducible rfl); done)) | fail
      try simp only [Act.put, List.getElem_toArray, List.getElem_cons_zero, List.getElem_cons_succ, List.setIfInBounds_toArray, List.set_cons_zero, List.set_cons_succ]
      refine wpAnyH_take (i := 5) (v := ?_) rfl (by kernel_rfl) (by kernel_rfl) (by kernel_rfl) (fun _ _ _ h => h) (Or.inl ⟨by rfl, ?_⟩) (by assumption) ?_
      rotate_left
      first | (focus ((intro w hSw; (try dsimp only at hSw); go_simp); (try with_reducible rfl); done)) | fail
      try simp only [Act.put, List.getElem_toArray, List.getElem_cons_zero, List.getElem_cons_succ, List.setIfInBounds_toArray, List.set_cons_zero, List.set_cons_succ]
      refine wpAnyH_take (i := 7) (v := ?_) rfl (by kernel_rfl) (by kernel_rfl) (by kernel_rfl) (fun _ _ _ h => h) (Or.inl ⟨by rfl, ?_⟩) (by assumption) ?_
      rotate_left
      first | (focus ((intro w hSw; (try dsimp only at hSw); go_simp); (try with_reducible rfl); done)) | fail
      try simp only [Act.put, List.getElem_toArray, List.getElem_cons_zero, List.getElem_cons_succ, List.setIfInBounds_toArray, List.set_cons_zero, List.set_cons_succ]
      refine wpAnyH_take (i := 8) (v := ?_) rfl (by kernel_rfl) (by kernel_rfl) (by kernel_rfl) (fun _ _ _ h => h) (Or.inl ⟨by rfl, ?_⟩) (by assumption) ?_
      rotate_left
      first | (focus ((intro w hSw; (try dsimp only at hSw); go_simp); (try with_reducible rfl); done)) | fail
      try simp only [Act.put, List.getElem_toArray, List.getElem_cons_zero, List.getElem_cons_succ, List.setIfInBounds_toArray, List.set_cons_zero, List.set_cons_succ]
      refine wpAnyH_take (i := 9) (v := ?_) rfl (by kernel_rfl) (by kernel_rfl) (by kernel_rfl) (fun _ _ _ h => h) (Or.inl ⟨by rfl, ?_⟩) (by assumption) ?_
      rotate_left
      first | (focus ((intro w hSw; (try dsimp only at hSw); go_simp); (try with_reducible rfl); done)) | fail
      try simp only [Act.put, List.getElem_toArray, List.getElem_cons_zero, List.getElem_cons_succ, List.setIfInBounds_toArray, List.set_cons_zero, List.set_cons_succ]
      refine wpAnyH_take (i := 10) (v := ?_) rfl (by kernel_rfl) (by kernel_rfl) (by kernel_rfl) (fun _ _ _ h => h) (Or.inl ⟨by rfl, ?_⟩) (by assumption) ?_
      rotate_left
      first | (focus ((intro w hSw; (try dsimp only at hSw); go_simp); (try with_reducible rfl); done)) | fail
      try simp only [Act.put, List.getElem_toArray, List.getElem_cons_zero, List.getElem_cons_succ, List.setIfInBounds_toArray, List.set_cons_zero, List.set_cons_succ]
      refine wpAnyH_take (i := 11) (v := ?_) rfl (by kernel_rfl) (by kernel_rfl) (by kernel_rfl) (fun _ _ _ h => h) (Or.inl ⟨by rfl, ?_⟩) (by assumption) ?_
      rotate_left
      first | (focus ((intro w hSw; (try dsimp only at hSw); go_simp); (try with_reducible rfl); done)) | fail
      try simp only [Act.put, List.getElem_toArray, List.getElem_cons_zero, List.getElem_cons_succ, List.setIfInBounds_toArray, List.set_cons_zero, List.set_cons_succ]
      refine wpAnyH_ready (rs := [6]) (by kernel_rfl) (by simp) ?_
      refine AllReadyH.cons rfl (fun K hK => ?_) AllReadyH.nil
      go_simp
      refine (CX.out _ (HM.out.1.up (Below.drew (Below.refl _ _)))).mono ?_; rintro e w5 ⟨rfl, b5⟩
      go_wp2_with fail
      refine hK.out _ _ ?_ (fun hHeld => ?_)
      · (try dsimp only); exact keep3 (by show b0 < wr.heap.size; omega) b5 hHeld
      clear hK K
      try simp only [Act.put, List.getElem_toArray, List.getElem_cons_zero, List.getElem_cons_succ, List.setIfInBounds_toArray, List.set_cons_zero, List.set_cons_succ]
      have HF := Lib.hid (And.intro ((HM.out.1.up (Below.drew (Below.refl _ _))).up b5) (HM.out.2.1.drew.trans (below_of_le b5 hNr)))
      clear b5
      by_cases hle : s ≤ q
      · have hd : decide (q < s) = false := by rw [hqd]; simpa using hle
        have h1 := Lib.hid (show rcov L (O.take (j + 1)) = true by rw [htk.out]; exact decide_eq_true hle)
        clear hqd hle
        refine wpAnyH_take (i := 12) (v := ?_) rfl (by kernel_rfl) (by kernel_rfl) (by kernel_rfl) (fun _ _ _ h => h) (Or.inl ⟨by rfl, ?_⟩) (by assumption) ?_
        rotate_left
        first | (focus ((intro w hSw; (try dsimp only at hSw); go_simp); (try with_reducible rfl); done)) | fail
        try simp only [Act.put, List.getElem_toArray, List.getElem_cons_zero, List.getElem_cons_succ, List.setIfInBounds_toArray, List.set_cons_zero, List.set_cons_succ]
        refine wpAnyH_done (by kernel_rfl) ?_ _
        go_wp2
        go_roundw
        case rel => exact ⟨j + 1, by omega, by go_num, h1.out, HF.out.1, HF.out.2⟩
        case measure => simp [intOf]; omega
      · have hd : decide (q < s) = true := by rw [hqd]; simpa using hle
        have h1 := Lib.hid (show rcov L O = false by
          rcases hno.out with h | h
          · exact absurd h hle
          · exact h)
        clear hqd hle
        refine wpAnyH_take (i := 12) (v := ?_) rfl (by kernel_rfl) (by kernel_rfl) (by kernel_rfl) (fun _ _ _ h => h) (Or.inl ⟨by rfl, ?_⟩) (by assumption) ?_
        rotate_left
        first | (focus ((intro w hSw; (try dsimp only at hSw); go_simp); (try with_reducible rfl); done)) | fail
        try simp only [Act.put, List.getElem_toArray, List.getElem_cons_zero, List.getElem_cons_succ, List.setIfInBounds_toArray, List.set_cons_zero, List.set_cons_succ]
        refine wpAnyH_done (by kernel_rfl) ?_ _
        go_wp2
        go_ret
        exact ⟨ret_bool h1.out.symm, HF.out.2⟩
    · have hj' : j = n := by omega
      subst hj'
      have ht := Lib.hid (show rcov L O = true by
        have := HM.out.2.2
        rwa [List.take_of_length_le (by have := HL.out; omega)] at this)
      go_wp2
      go_ret
      exact ⟨ret_bool ht.out.symm, HM.out.2.1⟩
theorem rmeet_step {L O : List Dt} {j : Nat} {x : Dt} (hx : L[j]? = some x) : rmeet (L.take (j + 1)) O = rmeet (L.take j) O ++ (if 0 < min x.2 (mget O x.1) then [(x.1, min x.2 (mget O x.1))] else []) := by
  rw [List.take_add_one, hx]
  unfold rmeet
  rw [List.filterMap_append]
  congr 1
  simp only [Option.toList_some, List.filterMap_cons, List.filterMap_nil]
  split <;> rename_i h
  · split at h
    · cases h
    · rename_i h1; rw [if_neg h1]
  · split at h
    · rename_i h1; cases h; rw [if_pos h1]
    · cases h
set_option maxHeartbeats 1000000 in
theorem rmeet17_any (w : World) (A A' : Option Addr) (c c' : Nat) (L O : List Dt) (hr : MsAt w A L) (ho : MsAt w A' O) (hn : L.length ≤ 100000000) (hno : O.length ≤ 9223372036854775807) :
    Calls Try.prog 38 #[.slice A L.length c, .slice A' O.length c'] w (NewMs w (rmeet L O)) := by
  have CG := Lib.hid (fun (a : Ac) (W : World) (hW : MsAt W A' O) => rget17_any W W.heap.size A' c' O a hW (Nat.le_refl _) hno)
  have HR := Lib.hid hr
  have HO := Lib.hid ho
  generalize hlen : L.length = n at *
  have HL := Lib.hid hlen
  generalize O.length = m at *
  have E0 := Lib.hid (And.intro (own_eM w 33 w.heap.size (Nat.le_refl _)) ((Below.refl w.heap.size w).alloc (Nat.le_refl _) (.cells #[] 33)))
  generalize hN : w.heap.size = N at *
  unfold acV at CG
  clear hr ho hlen
  go_enter Try.func38, Try.ntmps38
  go_wp2_with fail
  generalize (w.alloc (.cells #[] 33)) = W0 at *
  go_loopw [5, 6] (fun y i wr => ∃ (j : Nat) (A3 : Option Addr) (c3 : Nat), j ≤ n ∧ i = .int .i64 j ∧ y = .slice A3 (rmeet (L.take j) O).length c3 ∧ (rmeet (L.take j) O).length ≤ j ∧ Own wr N 33 3 A3 (rmeet (L.take j) O).length c3 (dts (rmeet (L.take j) O)) ∧ Below N w wr) (fun _ i _ => n - (intOf i).toNat)
  case atStart => exact ⟨0, some ⟨N, 0, none⟩, 0, by omega, rfl, rfl, by simp [rmeet], by simpa [rmeet, dts] using E0.out.1, E0.out.2⟩
  case round =>
    obtain ⟨j, A3, c3, hj, rfl, rfl, hlj, hM, hb⟩ := hrel
    have HM := Lib.hid (And.intro hM hb)
    clear hM hb E0
    by_cases hlt : j < n
    · obtain ⟨x, hx⟩ : ∃ x, L[j]? = some x := ⟨L[j]'(by have := HL.out; omega), List.getElem?_eq_getElem _⟩
      obtain ⟨b0, o0, hA, hb0, k0, k1, k2⟩ := (Ds.below (hN ▸ HR.out : Ds w N A L) HM.out.2).at_ hx
      have htk := Lib.hid (rmeet_step (O := O) hx)
      obtain ⟨⟨d, i⟩, s⟩ := x
      have CX := Lib.hid (fun (W : World) (h : MsAt W A' O) => CG.out (d, i) W h)
      simp only at k0 k1 k2 htk
      have HK := Lib.hid (And.intro k0 (And.intro k1 k2))
      have hNr : N ≤ wr.heap.size := by have := HM.out.2.size; omega
      clear hx k0 k1 k2
      subst hA
      generalize mget O (d, i) = q at *
      generalize hSl : (rmeet (L.take j) O) = S at *
      have HSl := Lib.hid hSl
      clear hSl
      go_wp2_with fail
      refine wp_region_held_drew (S := (fun W => W.cell? ⟨b0, o0 + j * 3, none⟩ = some (.int .i64 d) ∧ W.cell? ⟨b0, o0 + j * 3 + 1, none⟩ = some (.int .i64 i) ∧ W.cell? ⟨b0, o0 + j * 3 + 2, none⟩ = some (.int .i64 s))) (by kernel_rfl) ?_ (fun hHeld => ?_)
      · (try dsimp only); exact HK.out
      refine wpAnyH_take (i := 0) (v := ?_) rfl (by kernel_rfl) (by kernel_rfl) (by kernel_rfl) (fun _ _ _ h => h) (Or.inl ⟨by rfl, ?_⟩) (by assumption) ?_
      rotate_left
      first | (focus ((intro w hSw; (try dsimp only at hSw); go_simp); (try with_reducible rfl); done)) | fail
      try simp only [Act.put, List.getElem_toArray, List.getElem_cons_zero, List.setIfInBounds_toArray, List.set_cons_zero, List.set_cons_succ]
      refine wpAnyH_take (i := 1) (v := ?_) rfl (by kernel_rfl) (by kernel_rfl) (by kernel_rfl) (fun _ _ _ h => h) (Or.inl ⟨by rfl, ?_⟩) (by assumption) ?_
      rotate_left
      first | (focus ((intro w hSw; (try dsimp only at hSw); go_simp); (try with_reducible rfl); done)) | fail
      try simp only [Act.put, List.getElem_toArray, List.getElem_cons_zero, List.getElem_cons_succ, List.setIfInBounds_toArray, List.set_cons_zero, List.set_cons_succ]
      refine wpAnyH_take (i := 2) (v := ?_) rfl (by kernel_rfl) (by kernel_rfl) (by kernel_rfl) (fun _ _ _ h => h) (Or.inl ⟨by rfl, ?_⟩) (by assumption) ?_
      rotate_left
      first | (focus ((intro w hSw; (try dsimp only at hSw); go_simp); (try with_reducible rfl); done)) | fail
      try simp only [Act.put, List.getElem_toArray, List.getElem_cons_zero, List.getElem_cons_succ, List.setIfInBounds_toArray, List.set_cons_zero, List.set_cons_succ]
      refine wpAnyH_take (i := 3) (v := ?_) rfl (by kernel_rfl) (by kernel_rfl) (by kernel_rfl) (fun _ _ _ h => h) (Or.inl ⟨by rfl, ?_⟩) (by assumption) ?_
      rotate_left
      first | (focus ((intro w hSw; (try dsimp only at hSw); go_simp); (try with_reducible rfl); done)) | fail
      try simp only [Act.put, List.getElem_toArray, List.getElem_cons_zero, List.getElem_cons_succ, List.setIfInBounds_toArray, List.set_cons_zero, List.set_cons_succ]
      refine wpAnyH_take (i := 4) (v := ?_) rfl (by kernel_rfl) (by kernel_rfl) (by kernel_rfl) (fun _ _ _ h => h) (Or.inl ⟨by rfl, ?_⟩) (by assumption) ?_
      rotate_left
      first | (focus ((intro w hSw; (try dsimp only at hSw); go_simp); (try with_reducible rfl); done)) | fail
      try simp only [Act.put, List.getElem_toArray, List.getElem_cons_zero, List.getElem_cons_succ, List.setIfInBounds_toArray, List.set_cons_zero, List.set_cons_succ]
      refine wpAnyH_take (i := 5) (v := ?_) rfl (by kernel_rfl) (by kernel_rfl) (by kernel_rfl) (fun _ _ _ h => h) (Or.inl ⟨by rfl, ?_⟩) (by assumption) ?_
      rotate_left
      first | (focus ((intro w hSw; (try dsimp only at hSw); go_simp); (try with_reducible rfl); done)) | fail
      try simp only [Act.put, List.getElem_toArray, List.getElem_cons_zero, List.getElem_cons_succ, List.setIfInBounds_toArray, List.set_cons_zero, List.set_cons_succ]
      refine wpAnyH_take (i := 6) (v := ?_) rfl (by kernel_rfl) (by kernel_rfl) (by kernel_rfl) (fun _ _ _ h => h) (Or.inl ⟨by rfl, ?_⟩) (by assumption) ?_
      rotate_left
      first | (focus ((intro w hSw; (try dsimp only at hSw); go_simp); (try with_reducible rfl); done)) | fail
      try simp only [Act.put, List.getElem_toArray, List.getElem_cons_zero, List.getElem_cons_succ, List.setIfInBounds_toArray, List.set_cons_zero, List.set_cons_succ]
      refine wpAnyH_take (i := 7) (v := ?_) rfl (by kernel_rfl) (by kernel_rfl) (by kernel_rfl) (fun _ _ _ h => h) (Or.inl ⟨by rfl, ?_⟩) (by assumption) ?_
      rotate_left
      first | (focus ((intro w hSw; (try dsimp only at hSw); go_simp); (try with_reducible rfl); done)) | fail
      try simp only [Act.put, List.getElem_toArray, List.getElem_cons_zero, List.getElem_cons_succ, List.setIfInBounds_toArray, List.set_cons_zero, List.set_cons_succ]
      refine wpAnyH_take (i := 8) (v := ?_) rfl (by kernel_rfl) (by kernel_rfl) (by kernel_rfl) (fun _ _ _ h => h) (Or.inl ⟨by rfl, ?_⟩) (by assumption) ?_
      rotate_left
      first | (focus ((intro w hSw; (try dsimp only at hSw); go_simp); (try with_reducible rfl); done)) | fail
      try simp only [Act.put, List.getElem_toArray, List.getElem_cons_zero, List.getElem_cons_succ, List.setIfInBounds_toArray, List.set_cons_zero, List.set_cons_succ]
      refine wpAnyH_take (i := 9) (v := ?_) rfl (by kernel_rfl) (by kernel_rfl) (by kernel_rfl) (fun _ _ _ h => h) (Or.inl ⟨by rfl, ?_⟩) (by assumption) ?_
      rotate_left
      first | (focus ((intro w hSw; (try dsimp only at hSw); go_simp); (try with_reducible rfl); done)) | fail
      try simp only [Act.put, List.getElem_toArray, List.getElem_cons_zero, List.getElem_cons_succ, List.setIfInBounds_toArray, List.set_cons_zero, List.set_cons_succ]
      refine wpAnyH_take (i := 10) (v := ?_) rfl (by kernel_rfl) (by kernel_rfl) (by kernel_rfl) (fun _ _ _ h => h) (Or.inl ⟨by rfl, ?_⟩) (by assumption) ?_
      rotate_left
      first | (focus ((intro w hSw; (try dsimp only at hSw); go_simp); (try with_reducible rfl); done)) | fail
      try simp only [Act.put, List.getElem_toArray, List.getElem_cons_zero, List.getElem_cons_succ, List.setIfInBounds_toArray, List.set_cons_zero, List.set_cons_succ]
      refine wpAnyH_ready (rs := [11]) (by kernel_rfl) (by simp) ?_
      refine AllReadyH.cons rfl (fun K hK => ?_) AllReadyH.nil
      go_simp
      refine (CX.out _ (HO.out.up (by rw [hN]; exact HM.out.2.drew))).mono ?_; rintro e w5 ⟨rfl, b5⟩
      go_wp2_with fail
      refine hK.out _ _ ?_ (fun hHeld => ?_)
      · (try dsimp only); exact keep3 (by show b0 < wr.heap.size; omega) b5 hHeld
      clear hK K
      try simp only [Act.put, List.getElem_toArray, List.getElem_cons_zero, List.getElem_cons_succ, List.setIfInBounds_toArray, List.set_cons_zero, List.set_cons_succ]
      have HF := Lib.hid (And.intro (Own.below HM.out.1.drew b5 (Nat.le_refl _)) (HM.out.2.drew.trans (below_of_le b5 hNr)))
      clear b5
      refine wpAnyH_ready (rs := [12]) (by kernel_rfl) (by simp) ?_
      refine AllReadyH.cons rfl (fun K hK => ?_) AllReadyH.nil
      go_simp
      refine hK.out _ _ ?_ (fun hHeld => ?_)
      · (try dsimp only); exact hHeld
      clear hK K
      try simp only [Act.put, List.getElem_toArray, List.getElem_cons_zero, List.getElem_cons_succ, List.setIfInBounds_toArray, List.set_cons_zero, List.set_cons_succ]
      refine wpAnyH_take (i := 13) (v := ?_) rfl (by kernel_rfl) (by kernel_rfl) (by kernel_rfl) (fun _ _ _ h => h) (Or.inl ⟨by rfl, ?_⟩) (by assumption) ?_
      rotate_left
      first | (focus ((intro w hSw; (try dsimp only at hSw); go_simp); (try with_reducible rfl); done)) | fail
      try simp only [Act.put, List.getElem_toArray, List.getElem_cons_zero, List.getElem_cons_succ, List.setIfInBounds_toArray, List.set_cons_zero, List.set_cons_succ]
      refine wpAnyH_done (by kernel_rfl) ?_ _
      obtain ⟨k0, k1, k2⟩ := hHeld
      by_cases hp : 0 < min s q
      · have hs2 := Lib.hid (show rmeet (L.take (j + 1)) O = S ++ [((d, i), min s q)] by rw [htk.out, if_pos hp])
        obtain ⟨A4, c4, w4, q4, o4, ch4, b4⟩ := app1 w5 N A3 S.length c3 S rfl HF.out.1 ((d, i), min s q) (by omega) (by have := HF.out.2.size; omega)
        have HE := Lib.hid (And.intro o4 (HF.out.2.trans b4))
        have Q4 := Lib.hid q4
        clear o4 ch4 b4 q4
        generalize hmn : min s q = mn at *
        clear hmn
        go_wp2_with (at_builtin; refine wpList_want (by rfl) (fun K hK => wp_append_runs _ _ _ _ _ rfl _ _ rfl rfl _ _ Q4.out (hK _ _ ?_)))
        go_wp2
        go_roundw
        case rel => exact ⟨j + 1, A4, c4, by omega, by go_num, by rw [hs2.out]; simp, by rw [hs2.out]; simp; omega, by rw [hs2.out]; simpa using HE.out.1, HE.out.2⟩
        case measure => simp [intOf]; omega
      · have hs2 := Lib.hid (show rmeet (L.take (j + 1)) O = S by rw [htk.out, if_neg hp]; simp)
        generalize hmn : min s q = mn at *
        clear hmn
        go_wp2
        go_roundw
        case rel => exact ⟨j + 1, A3, c3, by omega, by go_num, by rw [hs2.out], by rw [hs2.out]; omega, by rw [hs2.out]; exact HF.out.1, HF.out.2⟩
        case measure => simp [intOf]; omega
    · have hj' : j = n := by omega
      subst hj'
      have ht := Lib.hid (show L.take j = L by rw [List.take_of_length_le (by have := HL.out; omega)])
      have HE := Lib.hid (show NewMs w (rmeet L O) (.returned (.slice A3 (rmeet (L.take j) O).length c3)) wr from ⟨A3, c3, by rw [ht.out], by have := HM.out.1; rw [ht.out] at this; rw [hN]; exact this, by rw [hN]; exact HM.out.2⟩)
      go_wp2
      go_ret
      exact HE.out
end Go.Proofs.Ytailbppddnegoaa
/- Layer 17 (vector): awake, made. -/
namespace Go.Proofs.Ytailbppddnegoaa
open Go.RowKit
set_option linter.unusedVariables false
set_option maxRecDepth 100000
attribute [local go_sem ↓] Go.wp_at_zero Go.wp_at_succ

theorem aw17_1 : raisedB [] (0, 1) 3 = true := by decide
theorem aw17_2 : rraise [] (0, 1) 3 = [((0, 1), 3)] := by decide
theorem aw17_3 : takenB [((0, 1), 3)] ((0, 1), 4) = true := by decide
theorem aw17_4 : rtake [((0, 1), 3)] ((0, 1), 4) = [((0, 1), 4)] := by decide
theorem aw17_5 : msum [((0, 1), 4)] = 4 := by decide
set_option maxHeartbeats 1000000 in
theorem awake17_any (w : World) : Calls Try.prog 16 #[] w fun e w' => e = .returned (.bool true) ∧ Below w.heap.size w w' := by
  have CN := Lib.hid (vcnew_any w)
  have C1 := Lib.hid (fun W v b (h : VecIs W v b []) => vcraise_any (0, 1) 3 W v b [] h)
  rw [aw17_1, aw17_2] at C1
  have C2 := Lib.hid (fun W v b (h : VecIs W v b [((0, 1), 3)]) => vctake_any ((0, 1), 4) W v b _ h)
  rw [aw17_3, aw17_4] at C2
  have C3' := Lib.hid (fun W v b (h : VecIs W v b [((0, 1), 4)]) => vcmarks_any W _ _ h.at_)
  have C4 := Lib.hid (fun W v b (h : VecIs W v b [((0, 1), 4)]) => vcsum_any W _ _ h.at_)
  rw [aw17_5] at C4
  generalize hN : w.heap.size = N at *
  unfold acV at C1
  unfold dtV at C2
  simp only at C1 C2
  go_enter Try.func16, Try.ntmps16
  go_wp2_with fail
  refine CN.out.mono ?_; rintro e w1 ⟨rfl, hv1, b1⟩
  have hs1 : N + 1 < w1.heap.size := hv1.ltv
  have hWn := Whole.new w1 25 #[.int .i64 0, .int .i64 1]
  have H1 := Lib.hid (And.intro (hv1.alloc (.cells #[.int .i64 0, .int .i64 1] 25)) (And.intro (b1.alloc (by omega) (.cells #[.int .i64 0, .int .i64 1] 25)) hWn))
  clear hv1 b1 CN
  go_wp2_with fail
  refine (C1.out _ _ _ H1.out.1).mono ?_; rintro e w2 ⟨rfl, hv2, hc2⟩
  have hW2 := H1.out.2.2.ch hc2 (by omega)
  have k0 : w2.cell? ⟨w1.heap.size, 0, none⟩ = some (.int .i64 0) := by rw [hW2.cell]; rfl
  have k1 : w2.cell? ⟨w1.heap.size, 1, none⟩ = some (.int .i64 1) := by rw [hW2.cell]; rfl
  have H2 := Lib.hid (And.intro hv2 (H1.out.2.1.trans (hc2.below (fun k hk e => by have e' : k = N := e; omega) (by simp; omega))))
  clear hv2 hc2 H1 hW2 hWn C1
  go_wp2_with fail
  refine (C2.out _ _ _ H2.out.1).mono ?_; rintro e w3 ⟨rfl, hv3, hc3⟩
  have H3 := Lib.hid (And.intro hv3 (H2.out.2.trans (hc3.below (fun k hk e => by have e' : k = N := e; omega) (by have := H2.out.1.ltv; omega))))
  clear hv3 hc3 H2 C2 k0 k1
  go_wp2_with fail
  refine (C3'.out _ _ _ H3.out.1).mono ?_; rintro e w4 ⟨A, c, rfl, o4, b4⟩
  obtain ⟨g, o, hA, hg, c0, c1, c2⟩ := (Ds.at_ (i := 0) o4.ds (x := ((0, 1), 4)) rfl)
  have H4 := Lib.hid (And.intro (H3.out.1.up b4) (H3.out.2.trans (below_of_le b4 (by have := H3.out.1.ltv; omega))))
  have hl : ([((0, 1), 4)] : List Dt).length = 1 := rfl
  clear o4 b4 H3 C3' c0 c1
  subst hA
  simp only [hl]
  clear hl
  go_wp2_with fail
  refine (C4.out _ _ _ H4.out.1).mono ?_; rintro e w5 ⟨rfl, b5⟩
  have H5 := Lib.hid (H4.out.2.trans (below_of_le b5 (by have := H4.out.1.ltv; omega)))
  clear b5
  go_wp2
  go_ret
  exact ⟨rfl, H5.out⟩
theorem MsAt.ch {S : Nat → Prop} {w w' : World} {A : Option Addr} {L : List Dt} (h : MsAt w A L) (hc : Ch S w w') (hS : ∀ k, bl A = some k → ¬ S k) : MsAt w' A L :=
  Ds.more (show Ds w' w.heap.size A L from Rd.ch h (Nat.le_refl _) hc (fun k _ hk => hS k hk)) hc.size
theorem keep3b {W W' : World} {B b0 p0 p1 p2 : Nat} {x y z : Value} (hb : b0 < B) (b : Below B W W') (h : W.cell? ⟨b0, p0, none⟩ = some x ∧ W.cell? ⟨b0, p1, none⟩ = some y ∧ W.cell? ⟨b0, p2, none⟩ = some z) :
    W'.cell? ⟨b0, p0, none⟩ = some x ∧ W'.cell? ⟨b0, p1, none⟩ = some y ∧ W'.cell? ⟨b0, p2, none⟩ = some z :=
  ⟨(b.cell hb).trans h.1, (b.cell hb).trans h.2.1, (b.cell hb).trans h.2.2⟩
/-- The program's vector and the document's marks. -/
def MadeEnd (w : World) (M : List Dt) (e : Ending) (w' : World) : Prop := ∃ v b A c, e = .returned (.tuple #[.pointer (some ⟨v, 0, none⟩), .slice A M.length c]) ∧ w.heap.size ≤ v ∧ w.heap.size ≤ b ∧ VecIs w' v b M ∧ MsAt w' A M ∧ (∀ k, bl A = some k → w.heap.size ≤ k ∧ k ≠ b) ∧ Below w.heap.size w w'
theorem rjoin_take (M L : List Dt) (j : Nat) (x : Dt) (hx : L[j]? = some x) : rjoin M (L.take (j + 1)) = rraise (rjoin M (L.take j)) x.1 x.2 := by
  rw [List.take_add_one, hx]; exact rjoin_snoc _ _ _
set_option maxHeartbeats 1000000 in
theorem made17_any (w : World) (A : Option Addr) (c : Nat) (L : List Dt) (hr : MsAt w A L) (hn : L.length ≤ 9223372036854775807) :
    Calls Try.prog 32 #[.slice A L.length c] w (MadeEnd w (rmade L)) := by
  have CN := Lib.hid (vcnew_any w)
  have CR := Lib.hid (fun (a : Ac) (n : Int) W v b (M : List Dt) (h : VecIs W v b M) => vcraise_any a n W v b M h)
  have CD := Lib.hid (fun (W : World) (A : Option Addr) (c : Nat) (L : List Dt) (a : Ac) (n : Int) (hr : MsAt W A L) (hv : Vw L) => rraise17_any W A c L a n hr (by have := hv.len; omega))
  have HR := Lib.hid hr
  have hmd : rmade L = rjoin [] (L.take 60) := rfl
  rw [hmd]
  generalize hlen : L.length = n at *
  have HL := Lib.hid hlen
  generalize hN : w.heap.size = N at *
  unfold acV at CR CD
  clear hr hlen hmd
  go_enter Try.func32, Try.ntmps32
  go_wp2_with fail
  refine CN.out.mono ?_; rintro e w1 ⟨rfl, hv1, b1⟩
  have hs1 : N + 1 < w1.heap.size := hv1.ltv
  have hoe := own_eM w1 33 w1.heap.size (Nat.le_refl _)
  have H1 := Lib.hid (And.intro (hv1.alloc (.cells #[] 33)) (And.intro (b1.alloc (by omega) (.cells #[] 33)) (show MsAt (w1.alloc (.cells #[] 33)) (some ⟨w1.heap.size, 0, none⟩) [] from MsAt.own (by simpa [dts] using hoe))))
  clear hv1 b1 CN hoe
  go_wp2_with fail
  generalize hz1 : w1.heap.size = z1 at *
  generalize (w1.alloc (.cells #[] 33)) = W1 at *
  go_loopw [5, 6] (fun y i wr => ∃ (j : Nat) (A1 : Option Addr) (c1 : Nat), j ≤ n ∧ j ≤ 60 ∧ i = .int .i64 j ∧ y = .slice A1 (rjoin [] (L.take j)).length c1 ∧ MsAt wr A1 (rjoin [] (L.take j)) ∧ VecIs wr (N + 1) N (rjoin [] (L.take j)) ∧ (∀ k, bl A1 = some k → N ≤ k ∧ k ≠ N) ∧ Below N w wr) (fun _ i _ => n - (intOf i).toNat)
  case atStart => exact ⟨0, some ⟨z1, 0, none⟩, 0, by omega, by omega, rfl, rfl, H1.out.2.2, H1.out.1, fun k hk => by simp [bl] at hk; omega, H1.out.2.1⟩
  case round =>
    obtain ⟨j, A1, c1, hj, hj6, rfl, rfl, hM, hv, hk1, hb⟩ := hrel
    have HM := Lib.hid (And.intro hM (And.intro hv (And.intro hk1 hb)))
    clear hM hv hk1 hb H1
    by_cases hlt : j < n ∧ j < 60
    · obtain ⟨hlt, hlt6⟩ := hlt
      obtain ⟨x, hx⟩ : ∃ x, L[j]? = some x := ⟨L[j]'(by have := HL.out; omega), List.getElem?_eq_getElem _⟩
      obtain ⟨b0, o0, hA, hb0, k0, k1, k2⟩ := (Ds.below (hN ▸ HR.out : Ds w N A L) HM.out.2.2.2).at_ hx
      have htk := Lib.hid (rjoin_take [] L j x hx)
      have hvw : Vw (rjoin [] (L.take j)) := Vw.nil.join _
      have hrq := Lib.hid (raiseL_eq hvw x.1 x.2)
      have CX := Lib.hid (fun W v b (h : VecIs W v b (rjoin [] (L.take j))) => CR.out x.1 x.2 W v b _ h)
      have CY := Lib.hid (fun W (h : MsAt W A1 (rjoin [] (L.take j))) => CD.out W A1 c1 _ x.1 x.2 h hvw)
      obtain ⟨⟨d, i⟩, s⟩ := x
      simp only at k0 k1 k2
      have HK := Lib.hid (And.intro k0 (And.intro k1 k2))
      have hNr : N < wr.heap.size := HM.out.2.1.ltb
      clear hx k0 k1 k2 hvw
      subst hA
      simp only at CX CY htk hrq
      generalize (rjoin [] (L.take j)) = Lj at *
      generalize hlj : Lj.length = lj at *
      have HLj := Lib.hid hlj
      clear hlj
      go_wp2_with fail
      refine wp_region_held_drew (S := (fun W => W.cell? ⟨b0, o0 + j * 3, none⟩ = some (.int .i64 d) ∧ W.cell? ⟨b0, o0 + j * 3 + 1, none⟩ = some (.int .i64 i) ∧ W.cell? ⟨b0, o0 + j * 3 + 2, none⟩ = some (.int .i64 s))) (by kernel_rfl) ?_ (fun hHeld => ?_)
      · (try dsimp only); exact HK.out
      refine wpAnyH_take (i := 0) (v := ?_) rfl (by kernel_rfl) (by kernel_rfl) (by kernel_rfl) (fun _ _ _ h => h) (Or.inl ⟨by rfl, ?_⟩) (by assumption) ?_
      rotate_left
      first | (focus ((intro w hSw; (try dsimp only at hSw); go_simp); (try with_reducible rfl); done)) | fail
      try simp only [Act.put, List.getElem_toArray, List.getElem_cons_zero, List.setIfInBounds_toArray, List.set_cons_zero, List.set_cons_succ]
      refine wpAnyH_take (i := 1) (v := ?_) rfl (by kernel_rfl) (by kernel_rfl) (by kernel_rfl) (fun _ _ _ h => h) (Or.inl ⟨by rfl, ?_⟩) (by assumption) ?_
      rotate_left
      first | (focus ((intro w hSw; (try dsimp only at hSw); go_simp); (try with_reducible rfl); done)) | fail
      try simp only [Act.put, List.getElem_toArray, List.getElem_cons_zero, List.getElem_cons_succ, List.setIfInBounds_toArray, List.set_cons_zero, List.set_cons_succ]
      refine wpAnyH_take (i := 2) (v := ?_) rfl (by kernel_rfl) (by kernel_rfl) (by kernel_rfl) (fun _ _ _ h => h) (Or.inl ⟨by rfl, ?_⟩) (by assumption) ?_
      rotate_left
      first | (focus ((intro w hSw; (try dsimp only at hSw); go_simp); (try with_reducible rfl); done)) | fail
      try simp only [Act.put, List.getElem_toArray, List.getElem_cons_zero, List.getElem_cons_succ, List.setIfInBounds_toArray, List.set_cons_zero, List.set_cons_succ]
      refine wpAnyH_take (i := 3) (v := ?_) rfl (by kernel_rfl) (by kernel_rfl) (by kernel_rfl) (fun _ _ _ h => h) (Or.inl ⟨by rfl, ?_⟩) (by assumption) ?_
      rotate_left
      first | (focus ((intro w hSw; (try dsimp only at hSw); go_simp); (try with_reducible rfl); done)) | fail
      try simp only [Act.put, List.getElem_toArray, List.getElem_cons_zero, List.getElem_cons_succ, List.setIfInBounds_toArray, List.set_cons_zero, List.set_cons_succ]
      refine wpAnyH_take (i := 4) (v := ?_) rfl (by kernel_rfl) (by kernel_rfl) (by kernel_rfl) (fun _ _ _ h => h) (Or.inl ⟨by rfl, ?_⟩) (by assumption) ?_
      rotate_left
      first | (focus ((intro w hSw; (try dsimp only at hSw); go_simp); (try with_reducible rfl); done)) | fail
      try simp only [Act.put, List.getElem_toArray, List.getElem_cons_zero, List.getElem_cons_succ, List.setIfInBounds_toArray, List.set_cons_zero, List.set_cons_succ]
      refine wpAnyH_take (i := 5) (v := ?_) rfl (by kernel_rfl) (by kernel_rfl) (by kernel_rfl) (fun _ _ _ h => h) (Or.inl ⟨by rfl, ?_⟩) (by assumption) ?_
      rotate_left
      first | (focus ((intro w hSw; (try dsimp only at hSw); go_simp); (try with_reducible rfl); done)) | fail
      try simp only [Act.put, List.getElem_toArray, List.getElem_cons_zero, List.getElem_cons_succ, List.setIfInBounds_toArray, List.set_cons_zero, List.set_cons_succ]
      refine wpAnyH_take (i := 6) (v := ?_) rfl (by kernel_rfl) (by kernel_rfl) (by kernel_rfl) (fun _ _ _ h => h) (Or.inl ⟨by rfl, ?_⟩) (by assumption) ?_
      rotate_left
      first | (focus ((intro w hSw; (try dsimp only at hSw); go_simp); (try with_reducible rfl); done)) | fail
      try simp only [Act.put, List.getElem_toArray, List.getElem_cons_zero, List.getElem_cons_succ, List.setIfInBounds_toArray, List.set_cons_zero, List.set_cons_succ]
      refine wpAnyH_take (i := 7) (v := ?_) rfl (by kernel_rfl) (by kernel_rfl) (by kernel_rfl) (fun _ _ _ h => h) (Or.inl ⟨by rfl, ?_⟩) (by assumption) ?_
      rotate_left
      first | (focus ((intro w hSw; (try dsimp only at hSw); go_simp); (try with_reducible rfl); done)) | fail
      try simp only [Act.put, List.getElem_toArray, List.getElem_cons_zero, List.getElem_cons_succ, List.setIfInBounds_toArray, List.set_cons_zero, List.set_cons_succ]
      refine wpAnyH_take (i := 8) (v := ?_) rfl (by kernel_rfl) (by kernel_rfl) (by kernel_rfl) (fun _ _ _ h => h) (Or.inl ⟨by rfl, ?_⟩) (by assumption) ?_
      rotate_left
      first | (focus ((intro w hSw; (try dsimp only at hSw); go_simp); (try with_reducible rfl); done)) | fail
      try simp only [Act.put, List.getElem_toArray, List.getElem_cons_zero, List.getElem_cons_succ, List.setIfInBounds_toArray, List.set_cons_zero, List.set_cons_succ]
      refine wpAnyH_take (i := 9) (v := ?_) rfl (by kernel_rfl) (by kernel_rfl) (by kernel_rfl) (fun _ _ _ h => h) (Or.inl ⟨by rfl, ?_⟩) (by assumption) ?_
      rotate_left
      first | (focus ((intro w hSw; (try dsimp only at hSw); go_simp); (try with_reducible rfl); done)) | fail
      try simp only [Act.put, List.getElem_toArray, List.getElem_cons_zero, List.getElem_cons_succ, List.setIfInBounds_toArray, List.set_cons_zero, List.set_cons_succ]
      refine wpAnyH_take (i := 10) (v := ?_) rfl (by kernel_rfl) (by kernel_rfl) (by kernel_rfl) (fun _ _ _ h => h) (Or.inl ⟨by rfl, ?_⟩) (by assumption) ?_
      rotate_left
      first | (focus ((intro w hSw; (try dsimp only at hSw); go_simp); (try with_reducible rfl); done)) | fail
      try simp only [Act.put, List.getElem_toArray, List.getElem_cons_zero, List.getElem_cons_succ, List.setIfInBounds_toArray, List.set_cons_zero, List.set_cons_succ]
      refine wpAnyH_ready (rs := [11]) (by kernel_rfl) (by simp) ?_
      refine AllReadyH.cons rfl (fun K hK => ?_) AllReadyH.nil
      go_simp
      refine (CX.out _ _ _ HM.out.2.1.drew).mono ?_; rintro e w5 ⟨rfl, hv5, hc5⟩
      go_wp2_with fail
      refine hK.out _ _ ?_ (fun hHeld => ?_)
      · (try dsimp only); exact keep3b hb0 (hc5.below (fun k hk e => by have e' : k = N := e; omega) (by show N ≤ wr.heap.size; omega)) hHeld
      clear hK K
      try simp only [Act.put, List.getElem_toArray, List.getElem_cons_zero, List.getElem_cons_succ, List.setIfInBounds_toArray, List.set_cons_zero, List.set_cons_succ]
      refine wpAnyH_done (by kernel_rfl) ?_ _
      have H5 := Lib.hid (And.intro (MsAt.ch (MsAt.up HM.out.1 (Below.drew (Below.refl _ _))) hc5 (fun k hk e => (HM.out.2.2.1 k hk).2 e)) (And.intro hv5 (HM.out.2.2.2.drew.trans (hc5.below (fun k hk e => by have e' : k = N := e; omega) (by show N ≤ wr.heap.size; omega)))))
      have HK5 := Lib.hid hHeld
      have hN5 : N < w5.heap.size := hv5.ltb
      clear hv5 hc5 hHeld
      go_wp2_with fail
      refine wp_region_held_drew (S := (fun W => W.cell? ⟨b0, o0 + j * 3, none⟩ = some (.int .i64 d) ∧ W.cell? ⟨b0, o0 + j * 3 + 1, none⟩ = some (.int .i64 i) ∧ W.cell? ⟨b0, o0 + j * 3 + 2, none⟩ = some (.int .i64 s))) (by kernel_rfl) ?_ (fun hHeld => ?_)
      · (try dsimp only); exact HK5.out
      refine wpAnyH_take (i := 0) (v := ?_) rfl (by kernel_rfl) (by kernel_rfl) (by kernel_rfl) (fun _ _ _ h => h) (Or.inl ⟨by rfl, ?_⟩) (by assumption) ?_
      rotate_left
      first | (focus ((intro w hSw; (try dsimp only at hSw); go_simp); (try with_reducible rfl); done)) | fail
      try simp only [Act.put, List.getElem_toArray, List.getElem_cons_zero, List.setIfInBounds_toArray, List.set_cons_zero, List.set_cons_succ]
      refine wpAnyH_take (i := 1) (v := ?_) rfl (by kernel_rfl) (by kernel_rfl) (by kernel_rfl) (fun _ _ _ h => h) (Or.inl ⟨by rfl, ?_⟩) (by assumption) ?_
      rotate_left
      first | (focus ((intro w hSw; (try dsimp only at hSw); go_simp); (try with_reducible rfl); done)) | fail
      try simp only [Act.put, List.getElem_toArray, List.getElem_cons_zero, List.getElem_cons_succ, List.setIfInBounds_toArray, List.set_cons_zero, List.set_cons_succ]
      refine wpAnyH_take (i := 2) (v := ?_) rfl (by kernel_rfl) (by kernel_rfl) (by kernel_rfl) (fun _ _ _ h => h) (Or.inl ⟨by rfl, ?_⟩) (by assumption) ?_
      rotate_left
      first | (focus ((intro w hSw; (try dsimp only at hSw); go_simp); (try with_reducible rfl); done)) | fail
      try simp only [Act.put, List.getElem_toArray, List.getElem_cons_zero, List.getElem_cons_succ, List.setIfInBounds_toArray, List.set_cons_zero, List.set_cons_succ]
      refine wpAnyH_take (i := 3) (v := ?_) rfl (by kernel_rfl) (by kernel_rfl) (by kernel_rfl) (fun _ _ _ h => h) (Or.inl ⟨by rfl, ?_⟩) (by assumption) ?_
      rotate_left
      first | (focus ((intro w hSw; (try dsimp only at hSw); go_simp); (try with_reducible rfl); done)) | fail
      try simp only [Act.put, List.getElem_toArray, List.getElem_cons_zero, List.getElem_cons_succ, List.setIfInBounds_toArray, List.set_cons_zero, List.set_cons_succ]
      refine wpAnyH_take (i := 4) (v := ?_) rfl (by kernel_rfl) (by kernel_rfl) (by kernel_rfl) (fun _ _ _ h => h) (Or.inl ⟨by rfl, ?_⟩) (by assumption) ?_
      rotate_left
      first | (focus ((intro w hSw; (try dsimp only at hSw); go_simp); (try with_reducible rfl); done)) | fail
      try simp only [Act.put, List.getElem_toArray, List.getElem_cons_zero, List.getElem_cons_succ, List.setIfInBounds_toArray, List.set_cons_zero, List.set_cons_succ]
      refine wpAnyH_take (i := 5) (v := ?_) rfl (by kernel_rfl) (by kernel_rfl) (by kernel_rfl) (fun _ _ _ h => h) (Or.inl ⟨by rfl, ?_⟩) (by assumption) ?_
      rotate_left
      first | (focus ((intro w hSw; (try dsimp only at hSw); go_simp); (try with_reducible rfl); done)) | fail
      try simp only [Act.put, List.getElem_toArray, List.getElem_cons_zero, List.getElem_cons_succ, List.setIfInBounds_toArray, List.set_cons_zero, List.set_cons_succ]
      refine wpAnyH_take (i := 6) (v := ?_) rfl (by kernel_rfl) (by kernel_rfl) (by kernel_rfl) (fun _ _ _ h => h) (Or.inl ⟨by rfl, ?_⟩) (by assumption) ?_
      rotate_left
      first | (focus ((intro w hSw; (try dsimp only at hSw); go_simp); (try with_reducible rfl); done)) | fail
      try simp only [Act.put, List.getElem_toArray, List.getElem_cons_zero, List.getElem_cons_succ, List.setIfInBounds_toArray, List.set_cons_zero, List.set_cons_succ]
      refine wpAnyH_take (i := 7) (v := ?_) rfl (by kernel_rfl) (by kernel_rfl) (by kernel_rfl) (fun _ _ _ h => h) (Or.inl ⟨by rfl, ?_⟩) (by assumption) ?_
      rotate_left
      first | (focus ((intro w hSw; (try dsimp only at hSw); go_simp); (try with_reducible rfl); done)) | fail
      try simp only [Act.put, List.getElem_toArray, List.getElem_cons_zero, List.getElem_cons_succ, List.setIfInBounds_toArray, List.set_cons_zero, List.set_cons_succ]
      refine wpAnyH_take (i := 8) (v := ?_) rfl (by kernel_rfl) (by kernel_rfl) (by kernel_rfl) (fun _ _ _ h => h) (Or.inl ⟨by rfl, ?_⟩) (by assumption) ?_
      rotate_left
      first | (focus ((intro w hSw; (try dsimp only at hSw); go_simp); (try with_reducible rfl); done)) | fail
      try simp only [Act.put, List.getElem_toArray, List.getElem_cons_zero, List.getElem_cons_succ, List.setIfInBounds_toArray, List.set_cons_zero, List.set_cons_succ]
      refine wpAnyH_take (i := 9) (v := ?_) rfl (by kernel_rfl) (by kernel_rfl) (by kernel_rfl) (fun _ _ _ h => h) (Or.inl ⟨by rfl, ?_⟩) (by assumption) ?_
      rotate_left
      first | (focus ((intro w hSw; (try dsimp only at hSw); go_simp); (try with_reducible rfl); done)) | fail
      try simp only [Act.put, List.getElem_toArray, List.getElem_cons_zero, List.getElem_cons_succ, List.setIfInBounds_toArray, List.set_cons_zero, List.set_cons_succ]
      refine wpAnyH_take (i := 10) (v := ?_) rfl (by kernel_rfl) (by kernel_rfl) (by kernel_rfl) (fun _ _ _ h => h) (Or.inl ⟨by rfl, ?_⟩) (by assumption) ?_
      rotate_left
      first | (focus ((intro w hSw; (try dsimp only at hSw); go_simp); (try with_reducible rfl); done)) | fail
      try simp only [Act.put, List.getElem_toArray, List.getElem_cons_zero, List.getElem_cons_succ, List.setIfInBounds_toArray, List.set_cons_zero, List.set_cons_succ]
      refine wpAnyH_ready (rs := [11]) (by kernel_rfl) (by simp) ?_
      refine AllReadyH.cons rfl (fun K hK => ?_) AllReadyH.nil
      go_simp
      refine (CY.out _ (H5.out.1.up (Below.drew (Below.refl _ _)))).mono ?_; rintro e w6 ⟨A6, c6, rfl, hM6, hk6, b6⟩
      go_wp2_with fail
      refine hK.out _ _ ?_ (fun hHeld => ?_)
      · (try dsimp only); exact keep3b (Nat.lt_of_lt_of_le hb0 (show N ≤ w5.heap.size by omega)) b6 hHeld
      clear hK K
      try simp only [Act.put, List.getElem_toArray, List.getElem_cons_zero, List.getElem_cons_succ, List.setIfInBounds_toArray, List.set_cons_zero, List.set_cons_succ]
      refine wpAnyH_take (i := 12) (v := ?_) rfl (by kernel_rfl) (by kernel_rfl) (by kernel_rfl) (fun _ _ _ h => h) (Or.inl ⟨by rfl, ?_⟩) (by assumption) ?_
      rotate_left
      first | (focus ((intro w hSw; (try dsimp only at hSw); go_simp); (try with_reducible rfl); done)) | fail
      try simp only [Act.put, List.getElem_toArray, List.getElem_cons_zero, List.getElem_cons_succ, List.setIfInBounds_toArray, List.set_cons_zero, List.set_cons_succ]
      refine wpAnyH_take (i := 13) (v := ?_) rfl (by kernel_rfl) (by kernel_rfl) (by kernel_rfl) (fun _ _ _ h => h) (Or.inl ⟨by rfl, ?_⟩) (by assumption) ?_
      rotate_left
      first | (focus ((intro w hSw; (try dsimp only at hSw); go_simp); (try with_reducible rfl); done)) | fail
      try simp only [Act.put, List.getElem_toArray, List.getElem_cons_zero, List.getElem_cons_succ, List.setIfInBounds_toArray, List.set_cons_zero, List.set_cons_succ]
      refine wpAnyH_take (i := 14) (v := ?_) rfl (by kernel_rfl) (by kernel_rfl) (by kernel_rfl) (fun _ _ _ h => h) (Or.inl ⟨by rfl, ?_⟩) (by assumption) ?_
      rotate_left
      first | (focus ((intro w hSw; (try dsimp only at hSw); go_simp); (try with_reducible rfl); done)) | fail
      try simp only [Act.put, List.getElem_toArray, List.getElem_cons_zero, List.getElem_cons_succ, List.setIfInBounds_toArray, List.set_cons_zero, List.set_cons_succ]
      refine wpAnyH_take (i := 15) (v := ?_) rfl (by kernel_rfl) (by kernel_rfl) (by kernel_rfl) (fun _ _ _ h => h) (Or.inl ⟨by rfl, ?_⟩) (by assumption) ?_
      rotate_left
      first | (focus ((intro w hSw; (try dsimp only at hSw); go_simp); (try with_reducible rfl); done)) | fail
      try simp only [Act.put, List.getElem_toArray, List.getElem_cons_zero, List.getElem_cons_succ, List.setIfInBounds_toArray, List.set_cons_zero, List.set_cons_succ]
      refine wpAnyH_take (i := 16) (v := ?_) rfl (by kernel_rfl) (by kernel_rfl) (by kernel_rfl) (fun _ _ _ h => h) (Or.inl ⟨by rfl, ?_⟩) (by assumption) ?_
      rotate_left
      first | (focus ((intro w hSw; (try dsimp only at hSw); go_simp); (try with_reducible rfl); done)) | fail
      try simp only [Act.put, List.getElem_toArray, List.getElem_cons_zero, List.getElem_cons_succ, List.setIfInBounds_toArray, List.set_cons_zero, List.set_cons_succ]
      refine wpAnyH_done (by kernel_rfl) ?_ _
      have hMr := hM6
      rw [hrq.out] at hMr
      have HF := Lib.hid (And.intro hMr (And.intro (VecIs.up H5.out.2.1.drew b6) (And.intro (show ∀ k, bl A6 = some k → N ≤ k ∧ k ≠ N from fun k hk => by
        rcases hk6 k hk with h | h
        · exact HM.out.2.2.1 k h
        · have h' : w5.heap.size ≤ k := h
          omega) (H5.out.2.2.drew.trans (below_of_le b6 (show N ≤ w5.heap.size by omega))))))
      clear hM6 hk6 b6 hMr
      go_wp2
      go_roundw
      case rel => exact ⟨j + 1, A6, c6, by omega, by omega, by go_num, by rw [htk.out, hrq.out], by rw [htk.out]; exact HF.out.1, by rw [htk.out]; exact HF.out.2.1, HF.out.2.2⟩
      case measure => simp [intOf]; omega
    · have ht := Lib.hid (show L.take j = L.take 60 by
        have := HL.out
        by_cases h : j < n
        · have : j = 60 := by omega
          rw [this]
        · rw [List.take_of_length_le (by omega), List.take_of_length_le (by omega)])
      have HE := Lib.hid (show MadeEnd w (rjoin [] (L.take 60)) (.returned (.tuple #[.pointer (some ⟨N + 1, 0, none⟩), .slice A1 (rjoin [] (L.take j)).length c1])) wr from by
        rw [ht.out]
        have hM := HM.out
        rw [ht.out] at hM
        exact ⟨N + 1, N, A1, c1, rfl, by omega, by omega, hM.2.1, hM.1, by rw [hN]; exact hM.2.2.1, by rw [hN]; exact hM.2.2.2⟩)
      by_cases h1 : j < n
      · have h2 : ¬ j < 60 := by omega
        go_wp2
        go_ret2
        exact HE.out
      · go_wp2
        go_ret2
        exact HE.out
end Go.Proofs.Ytailbppddnegoaa
