/- Merged: Z5, Z6, Z7. -/
import Derived.Test.YtailbppddnegoaaZA
import Derived.Test.YtailbppddnegoaaM10
import Derived.Test.YtailbppddnegoaaYD
/- Layer 18, the document's sets: Add. -/
namespace Go.Proofs.Ytailbppddnegoaa
open Go.RowKit
set_option linter.unusedVariables false
set_option maxRecDepth 100000
attribute [local go_sem ↓] Go.wp_at_zero Go.wp_at_succ

/-- 'append(append([]Dot of none, xs...), x)': both blocks are there ahead of the first. -/
theorem addB_ (u : World) (D g xi : Nat) (x : Dt) (A3 : Option Addr) (k c3 : Nat) (T1 : List Value) (ho : Own u D 27 3 (some ⟨g, 0, none⟩) 0 0 []) (hx : Whole u xi 27 #[.int .i64 x.1.1, .int .i64 x.1.2, .int .i64 x.2]) (hxg : xi ≠ g)
    (rT : Rd u D 3 A3 k T1) (oT : ∀ v ∈ T1, v.oneCell' = true) (hk : k ≤ 1000000) (hD : D ≤ u.heap.size) :
    ∃ A6 c6 w6 A8 c8 w8, (Builtin.append_ #[43, 43] 43 #[.slice (some ⟨g, 0, none⟩) 0 0, .slice A3 k c3]).run Try.prog u = .ok (.slice A6 k c6) w6 ∧
      (Builtin.append_ #[43, 43] 43 #[.slice A6 k c6, .slice (some ⟨xi, 0, none⟩) 1 1]).run Try.prog w6 = .ok (.slice A8 (k + 1) c8) w8 ∧
      Own w8 D 27 3 A8 (k + 1) c8 (T1 ++ dtC x) ∧ Below D u w6 ∧ Below D u w8 := by
  obtain ⟨A6, c6, w6, q1, o6, g6, n6⟩ := app3 u D _ 0 0 [] ho D A3 k c3 T1 rT oT (by omega) hD
  rw [Nat.zero_add] at q1 o6
  rw [List.nil_append] at o6
  have b6 := grown_below g6 hD ho.bl_ge
  have hx6 := hx.grown g6 (fun e => hxg (by simp [bl] at e; exact e.symm))
  obtain ⟨A8, c8, w8, q2, o8, g8, n8⟩ := app3 w6 D A6 k c6 T1 o6 (xi + 1) (some ⟨xi, 0, none⟩) 1 1 (dtC x) (rd_whole3 x hx6) (dtC_one x) (by omega) (Nat.le_trans hD b6.size)
  exact ⟨A6, c6, w6, A8, c8, w8, q1, q2, o8, b6, b6.trans (grown_below g8 (Nat.le_trans hD b6.size) o6.bl_ge)⟩
/-- The dot's block is made behind the first append. -/
theorem addA_ (u : World) (D g : Nat) (x : Dt) (A3 : Option Addr) (k c3 : Nat) (T1 : List Value) (ho : Own u D 27 3 (some ⟨g, 0, none⟩) 0 0 [])
    (rT : Rd u D 3 A3 k T1) (oT : ∀ v ∈ T1, v.oneCell' = true) (hk : k ≤ 1000000) (hD : D ≤ u.heap.size) :
    ∃ A6 c6 w6 A8 c8 w8, (Builtin.append_ #[43, 43] 43 #[.slice (some ⟨g, 0, none⟩) 0 0, .slice A3 k c3]).run Try.prog u = .ok (.slice A6 k c6) w6 ∧
      (Builtin.append_ #[43, 43] 43 #[.slice A6 k c6, .slice (some ⟨w6.heap.size, 0, none⟩) 1 1]).run Try.prog (w6.alloc (.cells #[.int .i64 x.1.1, .int .i64 x.1.2, .int .i64 x.2] 27)) = .ok (.slice A8 (k + 1) c8) w8 ∧
      Own w8 D 27 3 A8 (k + 1) c8 (T1 ++ dtC x) ∧ Below D u w6 ∧ Below D u w8 := by
  obtain ⟨A6, c6, w6, q1, o6, g6, n6⟩ := app3 u D _ 0 0 [] ho D A3 k c3 T1 rT oT (by omega) hD
  rw [Nat.zero_add] at q1 o6
  rw [List.nil_append] at o6
  have b6 := grown_below g6 hD ho.bl_ge
  have hD6 := Nat.le_trans hD b6.size
  have b7 := b6.alloc hD6 (.cells #[.int .i64 x.1.1, .int .i64 x.1.2, .int .i64 x.2] 27)
  have hD7 := Nat.le_trans hD b7.size
  obtain ⟨A8, c8, w8, q2, o8, g8, n8⟩ := app3 (w6.alloc (.cells #[.int .i64 x.1.1, .int .i64 x.1.2, .int .i64 x.2] 27)) D A6 k c6 T1 (o6.alloc _) (w6.heap.size + 1) (some ⟨w6.heap.size, 0, none⟩) 1 1 (dtC x) (rd_fresh3 w6 x _) (dtC_one x) (by omega) hD7
  exact ⟨A6, c6, w6, A8, c8, w8, q1, q2, o8, b6, b7.trans (grown_below g8 hD7 o6.bl_ge)⟩
/-- What the document's Add hands back. -/
def RAddEnd (w : World) (A0 : Option Addr) (L : List Dt) (e : Ending) (w' : World) : Prop := ∃ A c, e = .returned (.slice A L.length c) ∧ MsAt w' A L ∧ (∀ k, bl A = some k → bl A0 = some k ∨ w.heap.size ≤ k) ∧ Below w.heap.size w w'
set_option maxHeartbeats 2000000 in
theorem radd18_any (w : World) (A : Option Addr) (c : Nat) (L : List Dt) (x : Dt) (hr : MsAt w A L) (hn : L.length ≤ 900000) :
    Calls Try.prog 43 #[.slice A L.length c, dtV x] w (RAddEnd w A (rAdd L x)) := by
  have CR := Lib.hid (fun w => rright_any x.1.1 x.1.2 x.2 w)
  have CS := Lib.hid (fun (W : World) (B : Nat) (A : Option Addr) (c : Nat) (h : Ds W B A (L ++ [x])) (hB : B ≤ W.heap.size) => rsort_any W B A c (L ++ [x]) h hB (by simp; omega))
  have hrd : rightD x = dotB x.1.1 x.1.2 x.2 := rfl
  have hB0 : Below w.heap.size w (w.alloc (.cells #[.int .i64 x.1.1, .int .i64 x.1.2, .int .i64 x.2] 27)) := (Below.refl w.heap.size w).alloc (Nat.le_refl _) _
  have B0 := Lib.hid hB0
  have H := Lib.hid (C3.new w x.1.1 x.1.2 x.2 27)
  have HV := Lib.hid (hr.up hB0)
  have HO := Lib.hid hr
  have hs0 : (w.alloc (.cells #[.int .i64 x.1.1, .int .i64 x.1.2, .int .i64 x.2] 27)).heap.size = w.heap.size + 1 := by simp
  have HS := Lib.hid hs0
  have hLL : (L ++ [x]).length = L.length + 1 := by simp
  have hdt : dts L ++ dtC x = dts (L ++ [x]) := by simp [dts]
  have HDT := Lib.hid hdt
  rw [hLL] at CS
  generalize hlen : L.length = m at *
  have HLen := Lib.hid hlen
  have hm := hn
  cases hr1 : rightD x
  · have e1 : rAdd L x = L := by unfold rAdd; rw [hr1]; rfl
    rw [e1]
    rw [← hrd, hr1] at CR
    obtain ⟨⟨d, i⟩, s⟩ := x
    unfold dtV
    unfold dotV at CR
    simp only at CR H B0 HV HS
    have HE := Lib.hid (fun (W : World) (b : Below w.heap.size w W) => (show RAddEnd w A L (.returned (.slice A m c)) W from ⟨A, c, by rw [HLen.out], HO.out.up b, fun k h => .inl h, b⟩))
    clear hs0 hrd hr1 e1 hlen hr hB0 hLL hdt
    generalize hN : w.heap.size = N at *
    go_enter Try.func43, Try.ntmps43
    obtain ⟨k0, k1, k2⟩ := H.out
    go_wp2_with fail
    refine (CR.out _).mono ?_; rintro e w1 ⟨rfl, b1⟩
    have HF := Lib.hid (HE.out _ (B0.out.trans (below_of_le b1 (by have := HS.out; omega))))
    clear b1
    go_wp2
    go_ret
    exact HF.out
  · have e1 : rAdd L x = dsort (L ++ [x]) := by unfold rAdd; rw [if_pos hr1]
    rw [e1]
    rw [← hrd, hr1] at CR
    have HE := Lib.hid (fun (W8 W9 : World) (A9 : Option Addr) (c9 : Nat) (b8 : Below w.heap.size w W8) (o : Own W9 W8.heap.size 27 3 A9 (dsort (L ++ [x])).length c9 (dts (dsort (L ++ [x])))) (b9 : Below W8.heap.size W8 W9) => (show RAddEnd w A (dsort (L ++ [x])) (.returned (.slice A9 (dsort (L ++ [x])).length c9)) W9 from ⟨A9, c9, rfl, MsAt.own o, fun k h => .inr (Nat.le_trans b8.size (o.bl_lo k h)), b8.trans (below_of_le b9 b8.size)⟩))
    have oL := Lib.hid (dts_one L)
    have CA := Lib.hid (fun (u : World) (D g : Nat) => addA_ u D g x A m c (dts L))
    have CB := Lib.hid (fun (u : World) (D g xi : Nat) => addB_ u D g xi x A m c (dts L))
    have hds := Lib.hid (show ∀ (W : World) (D : Nat) (A8 : Option Addr) (c8 : Nat), Own W D 27 3 A8 (m + 1) c8 (dts L ++ dtC x) → Ds W W.heap.size A8 (L ++ [x]) from fun W D A8 c8 o => by
      have := o.rd
      rw [HDT.out] at this
      unfold Ds
      rw [hLL]
      exact this)
    clear hs0 hrd hr1 e1 hr hB0 hdt hLL
    generalize hT : dsort (L ++ [x]) = T at *
    obtain ⟨⟨d, i⟩, s⟩ := x
    unfold dtV
    unfold dotV at CR
    simp only at CR H B0 HV HS CA CB
    generalize hN : w.heap.size = N at *
    go_enter Try.func43, Try.ntmps43
    obtain ⟨k0, k1, k2⟩ := H.out
    go_wp2_with fail
    refine (CR.out _).mono ?_; rintro e w1 ⟨rfl, b1⟩
    have hN1 : N < w1.heap.size := by have := HS.out; have := b1.size; omega
    have H1 := Lib.hid (And.intro (C3.up H.out (show N < _ by have := HS.out; omega) b1) (And.intro (HV.out.up b1) (B0.out.trans (below_of_le b1 (by have := HS.out; omega)))))
    clear b1 k0 k1 k2 B0 H HV
    go_wp2_with fail
    refine wp_region_held_drew (S := (fun W => W.cell? ⟨N, 0, none⟩ = some (.int .i64 d) ∧ W.cell? ⟨N, 1, none⟩ = some (.int .i64 i) ∧ W.cell? ⟨N, 2, none⟩ = some (.int .i64 s))) (by kernel_rfl) ?_ (fun hHeld => ?_)
    · (try dsimp only); exact H1.out.1
    refine wpAnyH_take (i := 1) (v := ?_) rfl (by kernel_rfl) (by kernel_rfl) (by kernel_rfl) (fun _ _ _ h => h) (Or.inl ⟨by rfl, ?_⟩) (by assumption) ?_
    rotate_left
    first | (focus ((intro w hSw; (try dsimp only at hSw); go_simp); (try with_reducible rfl); done)) | fail
    try simp only [Act.put, List.getElem_toArray, List.getElem_cons_zero, List.getElem_cons_succ, List.setIfInBounds_toArray, List.set_cons_zero, List.set_cons_succ]
    refine wpAnyH_take (i := 3) (v := ?_) rfl (by kernel_rfl) (by kernel_rfl) (by kernel_rfl) (fun _ _ _ h => h) (Or.inl ⟨by rfl, ?_⟩) (by assumption) ?_
    rotate_left
    first | (focus ((intro w hSw; (try dsimp only at hSw); go_simp); (try with_reducible rfl); done)) | fail
    try simp only [Act.put, List.getElem_toArray, List.getElem_cons_zero, List.getElem_cons_succ, List.setIfInBounds_toArray, List.set_cons_zero, List.set_cons_succ]
    have RT : Rd w1.drew w1.heap.size 3 A m (dts L) := by
      have hh : Ds w1 w1.heap.size A L := H1.out.2.1
      unfold Ds at hh
      rw [HLen.out] at hh
      exact hh.drew
    have hEx : ∀ W : World, w1.heap.size ≤ W.heap.size → N < W.heap.size := fun W h => Nat.lt_of_lt_of_le hN1 h
    have BD := Lib.hid (H1.out.2.2.drew : Below N w w1.drew)
    generalize hD : w1.heap.size = D at *
    have hND : N ≤ D := by omega
    have oE := own_e3 w1.drew 27 D (Nat.le_of_eq hD.symm)
    have hsD : w1.drew.heap.size = D := hD
    rw [hsD] at oE
    refine wpAnyH_ready (rs := [0, 4]) (by kernel_rfl) (by simp) ?_
    refine AllReadyH.cons rfl (fun K hK => ?_) (AllReadyH.cons rfl (fun K hK => ?_) AllReadyH.nil)
    · skip
      go_simp
      refine hK.out _ _ ?_ (fun hHeld => ?_)
      · (try dsimp only); exact ⟨(World.cell?_alloc_lt _ _ _ (by show N < w1.heap.size; omega)).trans H1.out.1.1, (World.cell?_alloc_lt _ _ _ (by show N < w1.heap.size; omega)).trans H1.out.1.2.1, (World.cell?_alloc_lt _ _ _ (by show N < w1.heap.size; omega)).trans H1.out.1.2.2⟩
      clear hK K
      try simp only [Act.put, List.getElem_toArray, List.getElem_cons_zero, List.setIfInBounds_toArray, List.set_cons_zero, List.set_cons_succ]
      have hba : Below D w1.drew (w1.drew.alloc (.cells #[] 27)) := (Below.refl D w1.drew).alloc (Nat.le_of_eq hsD.symm) _
      have hz1 : D ≤ (w1.drew.alloc (.cells #[] 27)).heap.size := Nat.le_trans (Nat.le_of_eq hsD.symm) hba.size
      refine wpAnyH_ready (rs := [2, 4]) (by kernel_rfl) (by simp) ?_
      refine AllReadyH.cons rfl (fun K hK => ?_) (AllReadyH.cons rfl (fun K hK => ?_) AllReadyH.nil)
      · obtain ⟨A6, c6, w6, A8, c8, w8, q1, q2, o8, b6, b8⟩ := CA.out (w1.drew.alloc (.cells #[] 27)) D D oE (RT.alloc (Nat.le_of_eq hsD.symm) _) oL.out (by omega) hz1
        change Sem.run _ _ (World.drew (World.alloc w1 (.cells #[] 27))) = _ at q1
        have H6 := Lib.hid (And.intro o8 (And.intro (hba.trans b8) (hba.trans b6)))
        clear o8 b8
        refine step_append_run (by rfl) (.tmp 9) (.tmp 10) _ _ (by rfl) _ _ (by rfl) (by rfl) _ _ q1 ?_
        refine hK.out _ _ ?_ (fun hHeld => ?_)
        · (try dsimp only); exact ⟨(b6.cell (show N < D by omega)).trans hHeld.1, (b6.cell (show N < D by omega)).trans hHeld.2.1, (b6.cell (show N < D by omega)).trans hHeld.2.2⟩
        clear hK K
        try simp only [Act.put, List.getElem_toArray, List.getElem_cons_zero, List.getElem_cons_succ, List.setIfInBounds_toArray, List.set_cons_zero, List.set_cons_succ]
        have hN6 : N < w6.heap.size := by have := H6.out.2.2.size; simp only [World.drew] at this; omega
        clear b6 q1
        refine wpAnyH_ready (rs := [4]) (by kernel_rfl) (by simp) ?_
        refine AllReadyH.cons rfl (fun K hK => ?_) AllReadyH.nil
        go_simp
        refine hK.out _ _ ?_ (fun hHeld => ?_)
        · (try dsimp only); exact ⟨(World.cell?_alloc_lt _ _ _ hN6).trans hHeld.1, (World.cell?_alloc_lt _ _ _ hN6).trans hHeld.2.1, (World.cell?_alloc_lt _ _ _ hN6).trans hHeld.2.2⟩
        clear hK K
        try simp only [Act.put, List.getElem_toArray, List.getElem_cons_zero, List.getElem_cons_succ, List.setIfInBounds_toArray, List.set_cons_zero, List.set_cons_succ]
        refine wpAnyH_ready (rs := [5]) (by kernel_rfl) (by simp) ?_
        refine AllReadyH.cons rfl (fun K hK => ?_) AllReadyH.nil
        refine step_append_run (by rfl) (.tmp 11) (.tmp 13) _ _ (by rfl) _ _ (by rfl) (by rfl) _ _ q2 ?_
        refine hK.out _ _ ?_ (fun hHeld => ?_)
        · (try dsimp only); (have b8 := H6.out.2.1; exact ⟨(b8.cell (show N < D by omega)).trans H1.out.1.1, (b8.cell (show N < D by omega)).trans H1.out.1.2.1, (b8.cell (show N < D by omega)).trans H1.out.1.2.2⟩)
        clear hK K
        try simp only [Act.put, List.getElem_toArray, List.getElem_cons_zero, List.getElem_cons_succ, List.setIfInBounds_toArray, List.set_cons_zero, List.set_cons_succ]
        clear q2
        refine wpAnyH_ready (rs := [6]) (by kernel_rfl) (by simp) ?_
        refine AllReadyH.cons rfl (fun K hK => ?_) AllReadyH.nil
        go_simp
        refine (CS.out w8 w8.heap.size A8 c8 (hds.out _ _ _ _ H6.out.1) (Nat.le_refl _)).mono ?_; rintro e w9 ⟨A9, c9, rfl, o9, b9⟩
        go_wp2_with fail
        refine hK.out _ _ ?_ (fun hHeld => ?_)
        · (try dsimp only); exact C3.up (W := w8) hHeld (show N < w8.heap.size by have := H6.out.2.1.size; simp only [World.drew] at this; omega) b9
        clear hK K
        try simp only [Act.put, List.getElem_toArray, List.getElem_cons_zero, List.getElem_cons_succ, List.setIfInBounds_toArray, List.set_cons_zero, List.set_cons_succ]
        have HF := Lib.hid (HE.out _ _ _ _ (BD.out.trans (below_of_le H6.out.2.1 hND)) o9 b9)
        clear o9 b9
        refine wpAnyH_take (i := 7) (v := ?_) rfl (by kernel_rfl) (by kernel_rfl) (by kernel_rfl) (fun _ _ _ h => h) (Or.inl ⟨by rfl, ?_⟩) (by assumption) ?_
        rotate_left
        first | (focus ((intro w hSw; (try dsimp only at hSw); go_simp); (try with_reducible rfl); done)) | fail
        try simp only [Act.put, List.getElem_toArray, List.getElem_cons_zero, List.getElem_cons_succ, List.setIfInBounds_toArray, List.set_cons_zero, List.set_cons_succ]
        refine wpAnyH_done (by kernel_rfl) ?_ _
        go_wp2
        go_ret
        exact HF.out
      · skip
        go_simp
        refine hK.out _ _ ?_ (fun hHeld => ?_)
        · (try dsimp only); exact ⟨(World.cell?_alloc_lt _ _ _ (by simp; omega)).trans hHeld.1, (World.cell?_alloc_lt _ _ _ (by simp; omega)).trans hHeld.2.1, (World.cell?_alloc_lt _ _ _ (by simp; omega)).trans hHeld.2.2⟩
        clear hK K
        try simp only [Act.put, List.getElem_toArray, List.getElem_cons_zero, List.getElem_cons_succ, List.setIfInBounds_toArray, List.set_cons_zero, List.set_cons_succ]
        have hW := Whole.new (w1.drew.alloc (.cells #[] 27)) 27 #[.int .i64 d, .int .i64 i, .int .i64 s]
        have hs1 : (w1.drew.alloc (.cells #[] 27)).heap.size = D + 1 := by simp [hD]
        rw [hs1] at hW
        have hba2 := hba.alloc hz1 (.cells #[.int .i64 d, .int .i64 i, .int .i64 s] 27)
        obtain ⟨A6, c6, w6, A8, c8, w8, q1, q2, o8, b6, b8⟩ := CB.out ((w1.drew.alloc (.cells #[] 27)).alloc (.cells #[.int .i64 d, .int .i64 i, .int .i64 s] 27)) D D (D + 1) (oE.alloc _) hW (by omega) ((RT.alloc (Nat.le_of_eq hsD.symm) _).alloc hz1 _) oL.out (by omega) (Nat.le_trans (Nat.le_of_eq hsD.symm) hba2.size)
        change Sem.run _ _ (World.drew (World.alloc (World.alloc w1 (.cells #[] 27)) (.cells #[.int .i64 d, .int .i64 i, .int .i64 s] 27))) = _ at q1
        have H6 := Lib.hid (And.intro o8 (And.intro (hba2.trans b8) (hba2.trans b6)))
        clear o8 b8 hW
        refine wpAnyH_ready (rs := [2]) (by kernel_rfl) (by simp) ?_
        refine AllReadyH.cons rfl (fun K hK => ?_) AllReadyH.nil
        refine step_append_run (by rfl) (.tmp 9) (.tmp 10) _ _ (by rfl) _ _ (by rfl) (by rfl) _ _ q1 ?_
        refine hK.out _ _ ?_ (fun hHeld => ?_)
        · (try dsimp only); exact ⟨(b6.cell (show N < D by omega)).trans hHeld.1, (b6.cell (show N < D by omega)).trans hHeld.2.1, (b6.cell (show N < D by omega)).trans hHeld.2.2⟩
        clear hK K
        try simp only [Act.put, List.getElem_toArray, List.getElem_cons_zero, List.getElem_cons_succ, List.setIfInBounds_toArray, List.set_cons_zero, List.set_cons_succ]
        clear b6 q1
        refine wpAnyH_ready (rs := [5]) (by kernel_rfl) (by simp) ?_
        refine AllReadyH.cons rfl (fun K hK => ?_) AllReadyH.nil
        refine step_append_run (by rfl) (.tmp 11) (.tmp 13) _ _ (by rfl) _ _ (by rfl) (by rfl) _ _ q2 ?_
        refine hK.out _ _ ?_ (fun hHeld => ?_)
        · (try dsimp only); (have b8 := H6.out.2.1; exact ⟨(b8.cell (show N < D by omega)).trans H1.out.1.1, (b8.cell (show N < D by omega)).trans H1.out.1.2.1, (b8.cell (show N < D by omega)).trans H1.out.1.2.2⟩)
        clear hK K
        try simp only [Act.put, List.getElem_toArray, List.getElem_cons_zero, List.getElem_cons_succ, List.setIfInBounds_toArray, List.set_cons_zero, List.set_cons_succ]
        clear q2
        refine wpAnyH_ready (rs := [6]) (by kernel_rfl) (by simp) ?_
        refine AllReadyH.cons rfl (fun K hK => ?_) AllReadyH.nil
        go_simp
        refine (CS.out w8 w8.heap.size A8 c8 (hds.out _ _ _ _ H6.out.1) (Nat.le_refl _)).mono ?_; rintro e w9 ⟨A9, c9, rfl, o9, b9⟩
        go_wp2_with fail
        refine hK.out _ _ ?_ (fun hHeld => ?_)
        · (try dsimp only); exact C3.up (W := w8) hHeld (show N < w8.heap.size by have := H6.out.2.1.size; simp only [World.drew] at this; omega) b9
        clear hK K
        try simp only [Act.put, List.getElem_toArray, List.getElem_cons_zero, List.getElem_cons_succ, List.setIfInBounds_toArray, List.set_cons_zero, List.set_cons_succ]
        have HF := Lib.hid (HE.out _ _ _ _ (BD.out.trans (below_of_le H6.out.2.1 hND)) o9 b9)
        clear o9 b9
        refine wpAnyH_take (i := 7) (v := ?_) rfl (by kernel_rfl) (by kernel_rfl) (by kernel_rfl) (fun _ _ _ h => h) (Or.inl ⟨by rfl, ?_⟩) (by assumption) ?_
        rotate_left
        first | (focus ((intro w hSw; (try dsimp only at hSw); go_simp); (try with_reducible rfl); done)) | fail
        try simp only [Act.put, List.getElem_toArray, List.getElem_cons_zero, List.getElem_cons_succ, List.setIfInBounds_toArray, List.set_cons_zero, List.set_cons_succ]
        refine wpAnyH_done (by kernel_rfl) ?_ _
        go_wp2
        go_ret
        exact HF.out
    · skip
      go_simp
      refine hK.out _ _ ?_ (fun hHeld => ?_)
      · (try dsimp only); exact ⟨(World.cell?_alloc_lt _ _ _ (by show N < w1.heap.size; omega)).trans H1.out.1.1, (World.cell?_alloc_lt _ _ _ (by show N < w1.heap.size; omega)).trans H1.out.1.2.1, (World.cell?_alloc_lt _ _ _ (by show N < w1.heap.size; omega)).trans H1.out.1.2.2⟩
      clear hK K
      try simp only [Act.put, List.getElem_toArray, List.getElem_cons_zero, List.getElem_cons_succ, List.setIfInBounds_toArray, List.set_cons_zero, List.set_cons_succ]
      have hba : Below D w1.drew (w1.drew.alloc (.cells #[.int .i64 d, .int .i64 i, .int .i64 s] 27)) := (Below.refl D w1.drew).alloc (Nat.le_of_eq hsD.symm) _
      have hz1 : D ≤ (w1.drew.alloc (.cells #[.int .i64 d, .int .i64 i, .int .i64 s] 27)).heap.size := Nat.le_trans (Nat.le_of_eq hsD.symm) hba.size
      refine wpAnyH_ready (rs := [0]) (by kernel_rfl) (by simp) ?_
      refine AllReadyH.cons rfl (fun K hK => ?_) AllReadyH.nil
      go_simp
      refine hK.out _ _ ?_ (fun hHeld => ?_)
      · (try dsimp only); exact ⟨(World.cell?_alloc_lt _ _ _ (by simp; omega)).trans hHeld.1, (World.cell?_alloc_lt _ _ _ (by simp; omega)).trans hHeld.2.1, (World.cell?_alloc_lt _ _ _ (by simp; omega)).trans hHeld.2.2⟩
      clear hK K
      try simp only [Act.put, List.getElem_toArray, List.getElem_cons_zero, List.setIfInBounds_toArray, List.set_cons_zero, List.set_cons_succ]
      have hW := Whole.new w1.drew 27 #[.int .i64 d, .int .i64 i, .int .i64 s]
      rw [hsD] at hW
      have oE2 := own_e3 (w1.drew.alloc (.cells #[.int .i64 d, .int .i64 i, .int .i64 s] 27)) 27 D hz1
      have hs1 : (w1.drew.alloc (.cells #[.int .i64 d, .int .i64 i, .int .i64 s] 27)).heap.size = D + 1 := by simp [hD]
      rw [hs1] at oE2
      have hba2 := hba.alloc hz1 (.cells #[] 27)
      obtain ⟨A6, c6, w6, A8, c8, w8, q1, q2, o8, b6, b8⟩ := CB.out ((w1.drew.alloc (.cells #[.int .i64 d, .int .i64 i, .int .i64 s] 27)).alloc (.cells #[] 27)) D (D + 1) D oE2 (hW.alloc _) (by omega) ((RT.alloc (Nat.le_of_eq hsD.symm) _).alloc hz1 _) oL.out (by omega) (Nat.le_trans (Nat.le_of_eq hsD.symm) hba2.size)
      change Sem.run _ _ (World.drew (World.alloc (World.alloc w1 (.cells #[.int .i64 d, .int .i64 i, .int .i64 s] 27)) (.cells #[] 27))) = _ at q1
      have H6 := Lib.hid (And.intro o8 (And.intro (hba2.trans b8) (hba2.trans b6)))
      clear o8 b8 hW
      refine wpAnyH_ready (rs := [2]) (by kernel_rfl) (by simp) ?_
      refine AllReadyH.cons rfl (fun K hK => ?_) AllReadyH.nil
      refine step_append_run (by rfl) (.tmp 9) (.tmp 10) _ _ (by rfl) _ _ (by rfl) (by rfl) _ _ q1 ?_
      refine hK.out _ _ ?_ (fun hHeld => ?_)
      · (try dsimp only); exact ⟨(b6.cell (show N < D by omega)).trans hHeld.1, (b6.cell (show N < D by omega)).trans hHeld.2.1, (b6.cell (show N < D by omega)).trans hHeld.2.2⟩
      clear hK K
      try simp only [Act.put, List.getElem_toArray, List.getElem_cons_zero, List.getElem_cons_succ, List.setIfInBounds_toArray, List.set_cons_zero, List.set_cons_succ]
      clear b6 q1
      refine wpAnyH_ready (rs := [5]) (by kernel_rfl) (by simp) ?_
      refine AllReadyH.cons rfl (fun K hK => ?_) AllReadyH.nil
      refine step_append_run (by rfl) (.tmp 11) (.tmp 13) _ _ (by rfl) _ _ (by rfl) (by rfl) _ _ q2 ?_
      refine hK.out _ _ ?_ (fun hHeld => ?_)
      · (try dsimp only); (have b8 := H6.out.2.1; exact ⟨(b8.cell (show N < D by omega)).trans H1.out.1.1, (b8.cell (show N < D by omega)).trans H1.out.1.2.1, (b8.cell (show N < D by omega)).trans H1.out.1.2.2⟩)
      clear hK K
      try simp only [Act.put, List.getElem_toArray, List.getElem_cons_zero, List.getElem_cons_succ, List.setIfInBounds_toArray, List.set_cons_zero, List.set_cons_succ]
      clear q2
      refine wpAnyH_ready (rs := [6]) (by kernel_rfl) (by simp) ?_
      refine AllReadyH.cons rfl (fun K hK => ?_) AllReadyH.nil
      go_simp
      refine (CS.out w8 w8.heap.size A8 c8 (hds.out _ _ _ _ H6.out.1) (Nat.le_refl _)).mono ?_; rintro e w9 ⟨A9, c9, rfl, o9, b9⟩
      go_wp2_with fail
      refine hK.out _ _ ?_ (fun hHeld => ?_)
      · (try dsimp only); exact C3.up (W := w8) hHeld (show N < w8.heap.size by have := H6.out.2.1.size; simp only [World.drew] at this; omega) b9
      clear hK K
      try simp only [Act.put, List.getElem_toArray, List.getElem_cons_zero, List.getElem_cons_succ, List.setIfInBounds_toArray, List.set_cons_zero, List.set_cons_succ]
      have HF := Lib.hid (HE.out _ _ _ _ (BD.out.trans (below_of_le H6.out.2.1 hND)) o9 b9)
      clear o9 b9
      refine wpAnyH_take (i := 7) (v := ?_) rfl (by kernel_rfl) (by kernel_rfl) (by kernel_rfl) (fun _ _ _ h => h) (Or.inl ⟨by rfl, ?_⟩) (by assumption) ?_
      rotate_left
      first | (focus ((intro w hSw; (try dsimp only at hSw); go_simp); (try with_reducible rfl); done)) | fail
      try simp only [Act.put, List.getElem_toArray, List.getElem_cons_zero, List.getElem_cons_succ, List.setIfInBounds_toArray, List.set_cons_zero, List.set_cons_succ]
      refine wpAnyH_done (by kernel_rfl) ?_ _
      go_wp2
      go_ret
      exact HF.out
end Go.Proofs.Ytailbppddnegoaa
/- Layer 18, the document's sets: up, Base, Beyond. -/
namespace Go.Proofs.Ytailbppddnegoaa
open Go.RowKit
set_option linter.unusedVariables false
set_option maxRecDepth 100000
attribute [local go_sem ↓] Go.wp_at_zero Go.wp_at_succ

theorem appD (w : World) (base : Nat) (A : Option Addr) (n c : Nat) (xs : List Value) (hown : Own w base 27 3 A n c xs) (B : Nat) (A' : Option Addr) (m c' : Nat) (news : List Value) (hr : Rd w B 3 A' m news) (h1 : ∀ u ∈ news, u.oneCell' = true) (hlen : n + m ≤ 4000000000) (hbase : base ≤ w.heap.size) :
    ∃ A2 c2 w', (Builtin.append_ #[43, 43] 43 #[.slice A n c, .slice A' m c']).run Try.prog w = .ok (.slice A2 (n + m) c2) w' ∧ Own w' base 27 3 A2 (n + m) c2 (xs ++ news) ∧ w.grownBy w' (bl A) ∧ Near w A A2 := by
  obtain ⟨i0, hi, hz0, hz1, hz2⟩ := info_parts info_dt
  exact run_append_rdn (P := Try.prog) w 43 43 base 27 i0 (.agg #[.int .i64 0, .int .i64 0, .int .i64 0]) 3 24 Try.underlying43 hi hz0 hz1 hz2 rfl (by decide) (by decide) A n c xs hown B A' m c' news hr h1 (by omega) hbase
/-- One dot appended, laid in a block of its own ahead of it. -/
theorem app1d (w : World) (base : Nat) (A : Option Addr) (n c : Nat) (L : List Dt) (hl : L.length = n) (hown : Own w base 27 3 A n c (dts L)) (x : Dt) (hlen : n ≤ 3000000000) (hbase : base ≤ w.heap.size) :
    ∃ A2 c2 w', (Builtin.append_ #[43, 43] 43 #[.slice A n c, .slice (some ⟨w.heap.size, 0, none⟩) 1 1]).run Try.prog (w.alloc (.cells #[.int .i64 x.1.1, .int .i64 x.1.2, .int .i64 x.2] 27)) = .ok (.slice A2 (n + 1) c2) w' ∧ Own w' base 27 3 A2 (n + 1) c2 (dts (L ++ [x])) ∧
      Ch (fun k => some k = bl A) w w' ∧ Below base w w' := by
  have hr : Rd (w.alloc (.cells #[.int .i64 x.1.1, .int .i64 x.1.2, .int .i64 x.2] 27)) (w.heap.size + 1) 3 (some ⟨w.heap.size, 0, none⟩) 1 (dtC x) := rd_fresh3 w x _
  obtain ⟨A2, c2, w', q, o, g, _⟩ := appD (w.alloc (.cells #[.int .i64 x.1.1, .int .i64 x.1.2, .int .i64 x.2] 27)) base A n c (dts L) (hown.alloc _) (w.heap.size + 1) _ 1 1 (dtC x) hr (dtC_one x) (by omega) (by simp; omega)
  refine ⟨A2, c2, w', q, ?_, ?_, ?_⟩
  · have e : dts (L ++ [x]) = dts L ++ dtC x := by simp [dts]
    rw [e]; exact o
  · exact (Ch.alloc_ _ w _).trans (grown_ch g) (fun k _ h => h)
  · exact ((Below.refl base w).alloc hbase _).grown g (by simp; omega) hown.bl_lo
set_option maxHeartbeats 1000000 in
theorem rup18_any (w : World) (A : Option Addr) (c : Nat) (L : List Dt) (a : Ac) (hr : MsAt w A L) (hn : L.length ≤ 9223372036854775807) (hb : ∀ x ∈ L, x.2 ≤ 4294967296) :
    Calls Try.prog 99 #[.slice A L.length c, acV a] w fun e w' => e = .returned (.int .i64 (upN L a)) ∧ Below w.heap.size w w' := by
  obtain ⟨d, i⟩ := a
  have CH := Lib.hid (fun (x : Dt) (W : World) (hW : MsAt W A L) => rhas_any W W.heap.size A c L x hW (Nat.le_refl _) hn)
  have hB0 : Below w.heap.size w (w.alloc (.cells #[.int .i64 d, .int .i64 i] 25)) := (Below.refl w.heap.size w).alloc (Nat.le_refl _) _
  have R0 := Lib.hid (And.intro (hr.up hB0) (And.intro (C2.mk_ (Whole.new w 25 #[.int .i64 d, .int .i64 i])) hB0))
  have HBD := Lib.hid hb
  generalize L.length = m at *
  generalize hN : w.heap.size = N at *
  clear hr hB0 hb
  unfold acV
  unfold dtV at CH
  go_enter Try.func99, Try.ntmps99
  go_wp2_with fail
  generalize (w.alloc (.cells #[.int .i64 d, .int .i64 i] 25)) = W0 at *
  go_loopw [5] (fun y wr => ∃ k : Int, y = .int .i64 k ∧ 0 ≤ k ∧ k ≤ 4294967296 ∧ (∀ j, 1 ≤ j → j ≤ k → ((d, i), j) ∈ L) ∧ MsAt wr A L ∧ C2 N d i wr ∧ Below N w wr) (fun y _ => abv L (d, i) (intOf y))
  case atStart => exact ⟨0, rfl, by omega, by omega, fun j h1 h2 => by omega, R0.out.1, R0.out.2.1, R0.out.2.2⟩
  case round =>
    obtain ⟨k, rfl, hk0, hk1, hk, hM, h2, hb⟩ := hrel
    have HK := Lib.hid hk
    have hNr : N < wr.heap.size := World.block_lt_of_cell? wr _ h2.1
    have HM := Lib.hid (And.intro hM (And.intro h2 hb))
    obtain ⟨k0, k1⟩ := h2
    have hw1 : IntKind.i64.wrap (k + 1) = k + 1 := by rw [IntKind.wrap_i64]; omega
    clear hk hM hb R0
    by_cases hin : ((d, i), k + 1) ∈ L
    · have CX := Lib.hid (fun W h => CH.out ((d, i), k + 1) W h)
      rw [decide_eq_true hin] at CX
      have hle := HBD.out _ hin
      have HIN := Lib.hid hin
      simp only at hle
      clear hin
      go_wp2_with fail
      refine (CX.out _ HM.out.1).mono ?_; rintro e w5 ⟨rfl, b5⟩
      have HF := Lib.hid (And.intro (HM.out.1.up b5) (And.intro (show C2 N d i w5 from ⟨(b5.cell hNr).trans HM.out.2.1.1, (b5.cell hNr).trans HM.out.2.1.2⟩) (HM.out.2.2.trans (below_of_le b5 (by omega)))))
      clear b5
      go_wp2
      go_roundw
      case rel => exact ⟨k + 1, rfl, by omega, by omega, fun j h1 h2 => by
        by_cases e : j = k + 1
        · subst e; exact HIN.out
        · exact HK.out j h1 (by omega), HF.out.1, HF.out.2.1, HF.out.2.2⟩
      case measure => have := abv_lt HIN.out; simp only [intOf]; exact this
    · have CX := Lib.hid (fun W h => CH.out ((d, i), k + 1) W h)
      rw [decide_eq_false hin] at CX
      have hup := Lib.hid (upN_eq (L := L) (a := (d, i)) (n := k) ⟨hk0, HK.out, hin⟩)
      clear hin
      go_wp2_with fail
      refine (CX.out _ HM.out.1).mono ?_; rintro e w5 ⟨rfl, b5⟩
      have HF := Lib.hid (HM.out.2.2.trans (below_of_le b5 (by omega)))
      clear b5
      go_wp2
      go_ret
      exact ⟨by rw [hup.out]; rfl, HF.out⟩
theorem rBase_vwt {L : List Dt} (hL : Dw L) (j : Nat) : Vw ((L.take j).foldl (rBaseStep L) []) := (rBase_fold hL (L.take j) [] Vw.nil (fun a => .inl rfl)).1
theorem dw_le {L : List Dt} (hL : Dw L) : ∀ x ∈ L, x.2 ≤ 4294967296 := fun x hx => by
  have := (rightD_iff _).1 (hL.2 x hx)
  omega
set_option maxHeartbeats 1000000 in
theorem rbase18_any (w : World) (A : Option Addr) (c : Nat) (L : List Dt) (hr : MsAt w A L) (hL : Dw L) (hn : L.length ≤ 9223372036854775807) :
    Calls Try.prog 95 #[.slice A L.length c] w (NewMs w (rBase L)) := by
  have CU := Lib.hid (fun (a : Ac) (W : World) (hW : MsAt W A L) => rup18_any W A c L a hW hn (dw_le hL))
  have CS := Lib.hid (fun (W : World) (A : Option Addr) (c : Nat) (L : List Dt) (a : Ac) (n : Int) (hW : MsAt W A L) (hv : Vw L) => rset17_any W W.heap.size A c L a n hW (Nat.le_refl _) (by have := hv.len; omega))
  have HR := Lib.hid hr
  have HVT := Lib.hid (rBase_vwt hL)
  generalize hlen : L.length = n at *
  have HLen := Lib.hid hlen
  have E0 := Lib.hid (And.intro (own_eM w 33 w.heap.size (Nat.le_refl _)) ((Below.refl w.heap.size w).alloc (Nat.le_refl _) (.cells #[] 33)))
  generalize hN : w.heap.size = N at *
  unfold acV at CU CS
  clear hr hlen hL
  go_enter Try.func95, Try.ntmps95
  go_wp2_with fail
  generalize (w.alloc (.cells #[] 33)) = W0 at *
  go_loopw [3, 4] (fun y i wr => ∃ (j : Nat) (A3 : Option Addr) (c3 : Nat), j ≤ n ∧ i = .int .i64 j ∧ y = .slice A3 ((L.take j).foldl (rBaseStep L) []).length c3 ∧ Own wr N 33 3 A3 ((L.take j).foldl (rBaseStep L) []).length c3 (dts ((L.take j).foldl (rBaseStep L) [])) ∧ Below N w wr) (fun _ i _ => n - (intOf i).toNat)
  case atStart => exact ⟨0, some ⟨N, 0, none⟩, 0, by omega, rfl, rfl, by simpa [dts] using E0.out.1, E0.out.2⟩
  case round =>
    obtain ⟨j, A3, c3, hj, rfl, rfl, hM, hb⟩ := hrel
    have HM := Lib.hid (And.intro hM hb)
    have HV := Lib.hid (HVT.out j)
    clear hM hb E0
    by_cases hlt : j < n
    · obtain ⟨x, hx⟩ : ∃ x, L[j]? = some x := ⟨L[j]'(by have := HLen.out; omega), List.getElem?_eq_getElem _⟩
      obtain ⟨b0, o0, hA, hb0, k0, k1, k2⟩ := (Ds.below (hN ▸ HR.out : Ds w N A L) HM.out.2).at_ hx
      have htk := Lib.hid (show (L.take (j + 1)).foldl (rBaseStep L) [] = if 0 < upN L x.1 then setL ((L.take j).foldl (rBaseStep L) []) x.1 (upN L x.1) false else ((L.take j).foldl (rBaseStep L) []) by
        rw [List.take_add_one, hx, List.foldl_append]; rfl)
      have CX := Lib.hid (fun (W : World) (h : MsAt W A L) => CU.out x.1 W h)
      have CY := Lib.hid (fun (W : World) (A : Option Addr) (c : Nat) (h : MsAt W A ((L.take j).foldl (rBaseStep L) [])) => CS.out W A c _ x.1 (upN L x.1) h HV.out)
      obtain ⟨⟨d, i⟩, s⟩ := x
      simp only at k0 k1 k2 htk CX CY
      have hNr : N ≤ wr.heap.size := by have := HM.out.2.size; omega
      clear hx
      subst hA
      generalize ((L.take j).foldl (rBaseStep L) []) = S at *
      generalize hSl : S.length = sl at *
      generalize upN L (d, i) = q at *
      have HK := Lib.hid (And.intro k0 k1)
      go_wp2_with fail
      refine (CX.out _ (HR.out.up (by rw [hN]; exact HM.out.2))).mono ?_; rintro e w5 ⟨rfl, b5⟩
      have hlo : b0 < wr.heap.size := by omega
      have HF := Lib.hid (And.intro (hSl ▸ HM.out.1.below b5 (Nat.le_refl _) : Own w5 N 33 3 A3 S.length c3 (dts S)) (And.intro (HM.out.2.trans (below_of_le b5 hNr)) (And.intro ((b5.cell hlo).trans HK.out.1) ((b5.cell hlo).trans HK.out.2))))
      have hN5 : N ≤ w5.heap.size := Nat.le_trans hNr b5.size
      clear b5 k0 k1 k2 HK
      by_cases hp : 0 < q
      · have hs2 := Lib.hid (show (L.take (j + 1)).foldl (rBaseStep L) [] = setL S (d, i) q false by rw [htk.out, if_pos hp])
        obtain ⟨k0, k1⟩ := HF.out.2.2
        go_wp2_with fail
        refine (CY.out _ _ _ (MsAt.own HF.out.1)).mono ?_; rintro e w6 ⟨A6, c6, rfl, o6, b6⟩
        have HE := Lib.hid (And.intro (o6.base_le hN5) (HF.out.2.1.trans (below_of_le b6 hN5)))
        clear o6 b6
        go_wp2
        go_roundw
        case rel => exact ⟨j + 1, A6, c6, by omega, by go_num, by rw [hs2.out], by rw [hs2.out]; exact HE.out.1, HE.out.2⟩
        case measure => simp [intOf]; omega
      · have hs2 := Lib.hid (show (L.take (j + 1)).foldl (rBaseStep L) [] = S by rw [htk.out, if_neg hp])
        go_wp2
        go_roundw
        case rel => exact ⟨j + 1, A3, c3, by omega, by go_num, by rw [hs2.out, hSl], by rw [hs2.out]; exact HF.out.1, HF.out.2.1⟩
        case measure => simp [intOf]; omega
    · have hj' : j = n := by omega
      subst hj'
      have ht := Lib.hid (show L.take j = L by rw [List.take_of_length_le (by have := HLen.out; omega)])
      have HE := Lib.hid (show NewMs w (rBase L) (.returned (.slice A3 ((L.take j).foldl (rBaseStep L) []).length c3)) wr from ⟨A3, c3, by rw [ht.out]; rfl, by have := HM.out.1; rw [ht.out] at this; rw [hN]; exact this, by rw [hN]; exact HM.out.2⟩)
      go_wp2
      go_ret
      exact HE.out
theorem rBeyond_step {L : List Dt} {j : Nat} {x : Dt} (hx : L[j]? = some x) : (L.take (j + 1)).filter (fun x => decide (upN L x.1 < x.2)) = (L.take j).filter (fun x => decide (upN L x.1 < x.2)) ++ (if upN L x.1 < x.2 then [x] else []) := by
  rw [List.take_add_one, hx, List.filter_append]
  congr 1
  simp only [Option.toList_some, List.filter_cons, List.filter_nil, decide_eq_true_eq]
set_option maxHeartbeats 1000000 in
theorem rbeyond18_any (w : World) (A : Option Addr) (c : Nat) (L : List Dt) (hr : MsAt w A L) (hL : Dw L) (hn : L.length ≤ 1000000) :
    Calls Try.prog 96 #[.slice A L.length c] w (DotsEnd w (rBeyond L)) := by
  have CU := Lib.hid (fun (a : Ac) (W : World) (hW : MsAt W A L) => rup18_any W A c L a hW (by omega) (dw_le hL))
  have HR := Lib.hid hr
  generalize hlen : L.length = n at *
  have HLen := Lib.hid hlen
  have E0 := Lib.hid (And.intro (own_e3 w 27 w.heap.size (Nat.le_refl _)) ((Below.refl w.heap.size w).alloc (Nat.le_refl _) (.cells #[] 27)))
  generalize hN : w.heap.size = N at *
  unfold acV at CU
  clear hr hlen hL
  go_enter Try.func96, Try.ntmps96
  go_wp2_with fail
  generalize (w.alloc (.cells #[] 27)) = W0 at *
  go_loopw [3, 4] (fun y i wr => ∃ (j : Nat) (A3 : Option Addr) (c3 : Nat) (S : List Dt), j ≤ n ∧ i = .int .i64 j ∧ S = (L.take j).filter (fun x => decide (upN L x.1 < x.2)) ∧ y = .slice A3 S.length c3 ∧ S.length ≤ j ∧ Own wr N 27 3 A3 S.length c3 (dts S) ∧ Below N w wr) (fun _ i _ => n - (intOf i).toNat)
  case atStart => exact ⟨0, some ⟨N, 0, none⟩, 0, [], by omega, rfl, rfl, rfl, by simp, by simpa [dts] using E0.out.1, E0.out.2⟩
  case round =>
    obtain ⟨j, A3, c3, S, hj, rfl, hS, rfl, hlj, hM, hb⟩ := hrel
    have HM := Lib.hid (And.intro hM hb)
    have HS := Lib.hid hS
    clear hM hb E0 hS
    by_cases hlt : j < n
    · obtain ⟨x, hx⟩ : ∃ x, L[j]? = some x := ⟨L[j]'(by have := HLen.out; omega), List.getElem?_eq_getElem _⟩
      obtain ⟨b0, o0, hA, hb0, k0, k1, k2⟩ := (Ds.below (hN ▸ HR.out : Ds w N A L) HM.out.2).at_ hx
      have htk := Lib.hid (rBeyond_step hx)
      have CX := Lib.hid (fun (W : World) (h : MsAt W A L) => CU.out x.1 W h)
      obtain ⟨⟨d, i⟩, s⟩ := x
      simp only at k0 k1 k2 htk CX
      have hNr : N ≤ wr.heap.size := by have := HM.out.2.size; omega
      clear hx
      subst hA
      generalize upN L (d, i) = q at *
      have HK := Lib.hid (And.intro k0 (And.intro k1 k2))
      clear k0 k1 k2
      go_wp2_with fail
      refine wp_region_held_drew (S := (fun W => W.cell? ⟨b0, o0 + j * 3, none⟩ = some (.int .i64 d) ∧ W.cell? ⟨b0, o0 + j * 3 + 1, none⟩ = some (.int .i64 i) ∧ W.cell? ⟨b0, o0 + j * 3 + 2, none⟩ = some (.int .i64 s))) (by kernel_rfl) ?_ (fun hHeld => ?_)
      · (try dsimp only); exact HK.out
      refine wpAnyH_take (i := 0) (v := ?_) rfl (by kernel_rfl) (by kernel_rfl) (by kernel_rfl) (fun _ _ _ h => h) (Or.inl ⟨by rfl, ?_⟩) (by assumption) ?_
      rotate_left
      first | (focus ((intro w hSw; (try dsimp only at hSw); go_simp); (try with_reducible rfl); done)) | fail
      try simp only [Act.put, List.getElem_toArray, List.getElem_cons_zero, List.setIfInBounds_toArray, List.set_cons_zero, List.set_cons_succ]
      refine wpAnyH_take (i := 1) (v := ?_) rfl (by kernel_rfl) (by kernel_rfl) (by kernel_rfl) (fun _ _ _ h => h) (Or.inl ⟨by rfl, ?_⟩) (by assumption) ?_
      rotate_left
      first | (focus ((intro w hSw; (try dsimp only at hSw); go_simp); (try with_reducible rfl); done)) | fail
      try simp only [Act.put, List.getElem_toArray, List.getElem_cons_zero, List.getElem_cons_succ, List.setIfInBounds_toArray, List.set_cons_zero, List.set_cons_succ]
      refine wpAnyH_take (i := 2) (v := ?_) rfl (by kernel_rfl) (by kernel_rfl) (by kernel_rfl) (fun _ _ _ h => h) (Or.inl ⟨by rfl, ?_⟩) (by assumption) ?_
      rotate_left
      first | (focus ((intro w hSw; (try dsimp only at hSw); go_simp); (try with_reducible rfl); done)) | fail
      try simp only [Act.put, List.getElem_toArray, List.getElem_cons_zero, List.getElem_cons_succ, List.setIfInBounds_toArray, List.set_cons_zero, List.set_cons_succ]
      refine wpAnyH_take (i := 3) (v := ?_) rfl (by kernel_rfl) (by kernel_rfl) (by kernel_rfl) (fun _ _ _ h => h) (Or.inl ⟨by rfl, ?_⟩) (by assumption) ?_
      rotate_left
      first | (focus ((intro w hSw; (try dsimp only at hSw); go_simp); (try with_reducible rfl); done)) | fail
      try simp only [Act.put, List.getElem_toArray, List.getElem_cons_zero, List.getElem_cons_succ, List.setIfInBounds_toArray, List.set_cons_zero, List.set_cons_succ]
      refine wpAnyH_take (i := 4) (v := ?_) rfl (by kernel_rfl) (by kernel_rfl) (by kernel_rfl) (fun _ _ _ h => h) (Or.inl ⟨by rfl, ?_⟩) (by assumption) ?_
      rotate_left
      first | (focus ((intro w hSw; (try dsimp only at hSw); go_simp); (try with_reducible rfl); done)) | fail
      try simp only [Act.put, List.getElem_toArray, List.getElem_cons_zero, List.getElem_cons_succ, List.setIfInBounds_toArray, List.set_cons_zero, List.set_cons_succ]
      refine wpAnyH_take (i := 5) (v := ?_) rfl (by kernel_rfl) (by kernel_rfl) (by kernel_rfl) (fun _ _ _ h => h) (Or.inl ⟨by rfl, ?_⟩) (by assumption) ?_
      rotate_left
      first | (focus ((intro w hSw; (try dsimp only at hSw); go_simp); (try with_reducible rfl); done)) | fail
      try simp only [Act.put, List.getElem_toArray, List.getElem_cons_zero, List.getElem_cons_succ, List.setIfInBounds_toArray, List.set_cons_zero, List.set_cons_succ]
      refine wpAnyH_take (i := 6) (v := ?_) rfl (by kernel_rfl) (by kernel_rfl) (by kernel_rfl) (fun _ _ _ h => h) (Or.inl ⟨by rfl, ?_⟩) (by assumption) ?_
      rotate_left
      first | (focus ((intro w hSw; (try dsimp only at hSw); go_simp); (try with_reducible rfl); done)) | fail
      try simp only [Act.put, List.getElem_toArray, List.getElem_cons_zero, List.getElem_cons_succ, List.setIfInBounds_toArray, List.set_cons_zero, List.set_cons_succ]
      refine wpAnyH_take (i := 7) (v := ?_) rfl (by kernel_rfl) (by kernel_rfl) (by kernel_rfl) (fun _ _ _ h => h) (Or.inl ⟨by rfl, ?_⟩) (by assumption) ?_
      rotate_left
      first | (focus ((intro w hSw; (try dsimp only at hSw); go_simp); (try with_reducible rfl); done)) | fail
      try simp only [Act.put, List.getElem_toArray, List.getElem_cons_zero, List.getElem_cons_succ, List.setIfInBounds_toArray, List.set_cons_zero, List.set_cons_succ]
      refine wpAnyH_take (i := 8) (v := ?_) rfl (by kernel_rfl) (by kernel_rfl) (by kernel_rfl) (fun _ _ _ h => h) (Or.inl ⟨by rfl, ?_⟩) (by assumption) ?_
      rotate_left
      first | (focus ((intro w hSw; (try dsimp only at hSw); go_simp); (try with_reducible rfl); done)) | fail
      try simp only [Act.put, List.getElem_toArray, List.getElem_cons_zero, List.getElem_cons_succ, List.setIfInBounds_toArray, List.set_cons_zero, List.set_cons_succ]
      refine wpAnyH_take (i := 9) (v := ?_) rfl (by kernel_rfl) (by kernel_rfl) (by kernel_rfl) (fun _ _ _ h => h) (Or.inl ⟨by rfl, ?_⟩) (by assumption) ?_
      rotate_left
      first | (focus ((intro w hSw; (try dsimp only at hSw); go_simp); (try with_reducible rfl); done)) | fail
      try simp only [Act.put, List.getElem_toArray, List.getElem_cons_zero, List.getElem_cons_succ, List.setIfInBounds_toArray, List.set_cons_zero, List.set_cons_succ]
      refine wpAnyH_take (i := 10) (v := ?_) rfl (by kernel_rfl) (by kernel_rfl) (by kernel_rfl) (fun _ _ _ h => h) (Or.inl ⟨by rfl, ?_⟩) (by assumption) ?_
      rotate_left
      first | (focus ((intro w hSw; (try dsimp only at hSw); go_simp); (try with_reducible rfl); done)) | fail
      try simp only [Act.put, List.getElem_toArray, List.getElem_cons_zero, List.getElem_cons_succ, List.setIfInBounds_toArray, List.set_cons_zero, List.set_cons_succ]
      refine wpAnyH_ready (rs := [11]) (by kernel_rfl) (by simp) ?_
      refine AllReadyH.cons rfl (fun K hK => ?_) AllReadyH.nil
      go_simp
      refine (CX.out _ (HR.out.up (by rw [hN]; exact HM.out.2.drew))).mono ?_; rintro e w5 ⟨rfl, b5⟩
      go_wp2_with fail
      refine hK.out _ _ ?_ (fun hHeld => ?_)
      · (try dsimp only); exact keep3 (by show b0 < wr.heap.size; omega) b5 hHeld
      clear hK K
      try simp only [Act.put, List.getElem_toArray, List.getElem_cons_zero, List.getElem_cons_succ, List.setIfInBounds_toArray, List.set_cons_zero, List.set_cons_succ]
      have HF := Lib.hid (And.intro (Own.below HM.out.1.drew b5 (Nat.le_refl _)) (HM.out.2.drew.trans (below_of_le b5 hNr)))
      clear b5
      by_cases hp : q < s
      · have hd : decide (s > q) = true := decide_eq_true hp
        have hs2 := Lib.hid (show S ++ [((d, i), s)] = (L.take (j + 1)).filter (fun x => decide (upN L x.1 < x.2)) by rw [htk.out, if_pos hp, ← HS.out])
        refine wpAnyH_take (i := 12) (v := ?_) rfl (by kernel_rfl) (by kernel_rfl) (by kernel_rfl) (fun _ _ _ h => h) (Or.inl ⟨by rfl, ?_⟩) (by assumption) ?_
        rotate_left
        first | (focus ((intro w hSw; (try dsimp only at hSw); go_simp); (try with_reducible rfl); done)) | fail
        try simp only [Act.put, List.getElem_toArray, List.getElem_cons_zero, List.getElem_cons_succ, List.setIfInBounds_toArray, List.set_cons_zero, List.set_cons_succ]
        refine wpAnyH_done (by kernel_rfl) ?_ _
        obtain ⟨k0, k1, k2⟩ := hHeld
        obtain ⟨A4, c4, w4, q4, o4, ch4, b4⟩ := app1d w5 N A3 S.length c3 S rfl HF.out.1 ((d, i), s) (by omega) (by have := HF.out.2.size; omega)
        have HE := Lib.hid (And.intro o4 (HF.out.2.trans b4))
        have Q4 := Lib.hid q4
        clear o4 ch4 b4 q4
        go_wp2_with (at_builtin; refine wpList_want (by rfl) (fun K hK => wp_append_runs _ _ _ _ _ rfl _ _ rfl rfl _ _ Q4.out (hK _ _ ?_)))
        go_wp2
        go_roundw
        case rel => exact ⟨j + 1, A4, c4, S ++ [((d, i), s)], by omega, by go_num, hs2.out, by simp, by simp; omega, by simpa using HE.out.1, HE.out.2⟩
        case measure => simp [intOf]; omega
      · have hd : decide (s > q) = false := decide_eq_false hp
        have hs2 := Lib.hid (show S = (L.take (j + 1)).filter (fun x => decide (upN L x.1 < x.2)) by rw [htk.out, if_neg hp, ← HS.out]; simp)
        refine wpAnyH_take (i := 12) (v := ?_) rfl (by kernel_rfl) (by kernel_rfl) (by kernel_rfl) (fun _ _ _ h => h) (Or.inl ⟨by rfl, ?_⟩) (by assumption) ?_
        rotate_left
        first | (focus ((intro w hSw; (try dsimp only at hSw); go_simp); (try with_reducible rfl); done)) | fail
        try simp only [Act.put, List.getElem_toArray, List.getElem_cons_zero, List.getElem_cons_succ, List.setIfInBounds_toArray, List.set_cons_zero, List.set_cons_succ]
        refine wpAnyH_done (by kernel_rfl) ?_ _
        go_wp2
        go_roundw
        case rel => exact ⟨j + 1, A3, c3, S, by omega, by go_num, hs2.out, rfl, by omega, HF.out.1, HF.out.2⟩
        case measure => simp [intOf]; omega
    · have hj' : j = n := by omega
      subst hj'
      have ht := Lib.hid (show S = rBeyond L by rw [HS.out, List.take_of_length_le (by have := HLen.out; omega)]; rfl)
      have HE := Lib.hid (show DotsEnd w (rBeyond L) (.returned (.slice A3 S.length c3)) wr from ⟨A3, c3, by rw [ht.out], by have := HM.out.1; rw [ht.out] at this; rw [hN]; exact this, by rw [hN]; exact HM.out.2⟩)
      go_wp2
      go_ret
      exact HE.out
end Go.Proofs.Ytailbppddnegoaa
/- Layer 18: awake, is, made. -/
namespace Go.Proofs.Ytailbppddnegoaa
open Go.RowKit
set_option linter.unusedVariables false
set_option maxRecDepth 100000
attribute [local go_sem ↓] Go.wp_at_zero Go.wp_at_succ

theorem rAdd_len {L : List Dt} (h : Dw L) (x : Dt) : (rAdd L x).length = L.length + (if addB L x = true then 1 else 0) := by
  cases hr : rightD x
  · have e1 : rAdd L x = L := by unfold rAdd; rw [hr]; rfl
    have e2 : addB L x = false := by unfold addB; rw [hr]; rfl
    rw [e1, e2]; rfl
  · rw [rAdd_right h hr]
    by_cases hm : x ∈ L
    · have e2 : addB L x = false := by unfold addB; rw [hr, decide_eq_true hm]; rfl
      rw [insD_mem h.1 hm, e2]; rfl
    · have e2 : addB L x = true := by unfold addB; rw [hr, decide_eq_false hm]; rfl
      rw [length_insD _ hm, e2]; rfl
theorem rAdd_gt {L : List Dt} (h : Dw L) (x : Dt) : addB L x = decide (L.length < (rAdd L x).length) := by
  rw [rAdd_len h]
  cases addB L x <;> simp
theorem rAdd_le {L : List Dt} (h : Dw L) (x : Dt) : (rAdd L x).length ≤ L.length + 1 := by
  rw [rAdd_len h]; split <;> omega
/-- What a set, and the document's dots beside it, are in memory. -/
structure Two (w : World) (lo s v b g : Nat) (A : Option Addr) (S : List Dt) (M B : List Dt) : Prop where
  set : SetIs w s v b g M B
  l : SetL M B S
  at_ : MsAt w A S
  far : ∀ k, bl A = some k → lo ≤ k ∧ k ≠ b ∧ k ≠ g
  lb : lo ≤ b
  lg : lo ≤ g
theorem Two.up {w w' : World} {lo s v b g : Nat} {A : Option Addr} {S M B : List Dt} (h : Two w lo s v b g A S M B) (hb : Below w.heap.size w w') : Two w' lo s v b g A S M B :=
  ⟨h.set.up hb, h.l, h.at_.up hb, h.far, h.lb, h.lg⟩
theorem Two.drew {w : World} {lo s v b g : Nat} {A : Option Addr} {S M B : List Dt} (h : Two w lo s v b g A S M B) : Two w.drew lo s v b g A S M B := h.up (Below.drew (Below.refl _ _))
theorem Two.dw {w : World} {lo s v b g : Nat} {A : Option Addr} {S M B : List Dt} (h : Two w lo s v b g A S M B) : Dw S := h.l.dw
theorem ch_below {w w' : World} {b g lo : Nat} (hc : Ch (fun k => k = b ∨ k = g) w w') (hb : lo ≤ b) (hg : lo ≤ g) (hl : lo ≤ w.heap.size) : Below lo w w' :=
  hc.below (fun k hk e => by rcases e with e | e <;> (subst e; omega)) hl
set_option maxHeartbeats 1000000 in
theorem is18_any (w : World) (lo s v b g : Nat) (A : Option Addr) (c : Nat) (S M B : List Dt) (h : Two w lo s v b g A S M B) (hn : S.length ≤ 1000000) :
    Calls Try.prog 45 #[.pointer (some ⟨s, 0, none⟩), .slice A S.length c] w fun e w' => e = .returned (.bool true) ∧ Below w.heap.size w w' := by
  have hS := h.l.len
  have C1 := Lib.hid (ssbase_any w _ M B h.set.at_)
  have C2 := Lib.hid (fun (W : World) (hW : MsAt W A S) => rbase18_any W A c S hW h.l.dw (by omega))
  have C3 := Lib.hid (fun (W : World) (A A' : Option Addr) (c c' : Nat) (hr : MsAt W A M) (hr' : MsAt W A' M) => rsame17_any W W.heap.size W.heap.size A A' c c' M M hr hr' (Nat.le_refl _) (Nat.le_refl _) (by have := h.l.sw.vw.len; omega))
  have C4 := Lib.hid (fun (W : World) (hW : SetIs W s v b g M B) => ssbeyond_any W _ M B hW.at_ (by omega))
  have C5 := Lib.hid (fun (W : World) (hW : MsAt W A S) => rbeyond18_any W A c S hW h.l.dw hn)
  have C6 := Lib.hid (fun (W : World) (A A' : Option Addr) (c c' : Nat) (hr : MsAt W A B) (hr' : MsAt W A' B) => rsame16_any W W.heap.size W.heap.size A A' c c' B B hr hr' (Nat.le_refl _) (Nat.le_refl _) (by omega))
  rw [h.l.base] at C2
  rw [h.l.beyond] at C5
  simp only [decide_true] at C3 C6
  have H0 := Lib.hid (And.intro h.set (And.intro h.at_ (Below.refl w.heap.size w)))
  clear h hS
  generalize S.length = sl at *
  generalize hN : w.heap.size = N at *
  go_enter Try.func45, Try.ntmps45
  go_wp2_with fail
  refine C1.out.mono ?_; rintro e w1 ⟨A1, c1, rfl, o1, b1⟩
  have H1 := Lib.hid (And.intro (H0.out.1.up b1) (And.intro (H0.out.2.1.up b1) (And.intro (H0.out.2.2.trans (below_of_le b1 (by omega))) (MsAt.own o1))))
  have hN1 : N ≤ w1.heap.size := Nat.le_trans (Nat.le_of_eq hN.symm) H1.out.2.2.1.size
  clear o1 b1 H0
  go_wp2_with fail
  refine (C2.out _ H1.out.2.1).mono ?_; rintro e w2 ⟨A2, c2, rfl, o2, b2⟩
  have H2 := Lib.hid (And.intro (H1.out.1.up b2) (And.intro (H1.out.2.1.up b2) (And.intro (H1.out.2.2.1.trans (below_of_le b2 hN1)) (And.intro (H1.out.2.2.2.up b2) (MsAt.own o2)))))
  have hN2 : N ≤ w2.heap.size := Nat.le_trans hN1 b2.size
  clear o2 b2 H1
  go_wp2_with fail
  refine (C3.out _ _ _ _ _ H2.out.2.2.2.1 H2.out.2.2.2.2).mono ?_; rintro e w3 ⟨rfl, b3⟩
  have H3 := Lib.hid (And.intro (H2.out.1.up b3) (And.intro (H2.out.2.1.up b3) (H2.out.2.2.1.trans (below_of_le b3 hN2))))
  have hN3 : N ≤ w3.heap.size := Nat.le_trans hN2 b3.size
  clear b3 H2
  go_wp2_with fail
  refine (C4.out _ H3.out.1).mono ?_; rintro e w4 ⟨A4, c4, rfl, o4, b4⟩
  have H4 := Lib.hid (And.intro (H3.out.2.1.up b4) (And.intro (H3.out.2.2.trans (below_of_le b4 hN3)) (MsAt.own o4)))
  have hN4 : N ≤ w4.heap.size := Nat.le_trans hN3 b4.size
  clear o4 b4 H3
  go_wp2_with fail
  refine (C5.out _ H4.out.1).mono ?_; rintro e w5 ⟨A5, c5, rfl, o5, b5⟩
  have H5 := Lib.hid (And.intro (H4.out.2.1.trans (below_of_le b5 hN4)) (And.intro (H4.out.2.2.up b5) (MsAt.own o5)))
  have hN5 : N ≤ w5.heap.size := Nat.le_trans hN4 b5.size
  clear o5 b5 H4
  go_wp2_with fail
  refine (C6.out _ _ _ _ _ H5.out.2.1 H5.out.2.2).mono ?_; rintro e w6 ⟨rfl, b6⟩
  have H6 := Lib.hid (H5.out.1.trans (below_of_le b6 hN5))
  clear b6 H5
  go_wp2
  go_ret
  exact ⟨rfl, H6.out⟩
/-- The program's set and the document's dots. -/
def MadeS (w : World) (S : List Dt) (e : Ending) (w' : World) : Prop := ∃ s v b g M B A c, e = .returned (.tuple #[.pointer (some ⟨s, 0, none⟩), .slice A S.length c]) ∧ w.heap.size ≤ s ∧ w.heap.size ≤ v ∧ Two w' w.heap.size s v b g A S M B ∧ Below w.heap.size w w'
theorem smade_take (L : List Dt) (j : Nat) (x : Dt) (hx : L[j]? = some x) : (L.take (j + 1)).foldl rAdd [] = rAdd ((L.take j).foldl rAdd []) x := by
  rw [List.take_add_one, hx, List.foldl_append]; rfl
set_option maxHeartbeats 1000000 in
theorem made18_any (w : World) (A : Option Addr) (c : Nat) (L : List Dt) (hr : MsAt w A L) (hok : ∀ x ∈ L, dtOk x) (hn : L.length ≤ 9223372036854775807) :
    Calls Try.prog 54 #[.slice A L.length c] w (MadeS w (smade L)) := by
  have CN := Lib.hid (ssnew_any w)
  have CR := Lib.hid (fun (x : Dt) (ok : dtOk x) (W : World) s v b g (M B S : List Dt) (h : SetIs W s v b g M B) (hL : SetL M B S) (hl : S.length ≤ 60) => ssadd_in x ok W s v b g M B S h hL (by omega))
  have CD := Lib.hid (fun (W : World) (A : Option Addr) (c : Nat) (S : List Dt) (x : Dt) (hr : MsAt W A S) (hl : S.length ≤ 60) => radd18_any W A c S x hr (by omega))
  have HR := Lib.hid (And.intro hr hok)
  have hmd : smade L = (L.take 60).foldl rAdd [] := rfl
  rw [hmd]
  generalize hlen : L.length = n at *
  have HL := Lib.hid hlen
  generalize hN : w.heap.size = N at *
  clear hr hok hlen hmd
  unfold dtV at CR CD
  go_enter Try.func54, Try.ntmps54
  go_wp2_with fail
  refine CN.out.mono ?_; rintro e w1 ⟨s, v, b, g, rfl, hs, hv, hb, hg, hset, b1⟩
  rw [hN] at hs hv hb hg b1
  have hz1 : N ≤ w1.heap.size := by have := hset.lts; omega
  have hoe := own_e3 w1 27 w1.heap.size (Nat.le_refl _)
  have H1 := Lib.hid (And.intro (show Two (w1.alloc (.cells #[] 27)) N s v b g (some ⟨w1.heap.size, 0, none⟩) [] [] [] from
    ⟨hset.alloc _, SetL.nil, MsAt.own (by simpa [dts] using hoe), fun k hk => by simp [bl] at hk; have := hset.ltb; have := hset.ltg; omega, hb, hg⟩) (b1.alloc hz1 (.cells #[] 27)))
  clear hset b1 CN hoe
  go_wp2_with fail
  generalize hz1 : w1.heap.size = z1 at *
  generalize (w1.alloc (.cells #[] 27)) = W1 at *
  go_loopw [5, 6] (fun y i wr => ∃ (j : Nat) (A1 : Option Addr) (c1 : Nat) (S M B : List Dt), j ≤ n ∧ j ≤ 60 ∧ i = .int .i64 j ∧ S = (L.take j).foldl rAdd [] ∧ S.length ≤ j ∧ y = .slice A1 S.length c1 ∧ Two wr N s v b g A1 S M B ∧ Below N w wr) (fun _ i _ => n - (intOf i).toNat)
  case atStart => exact ⟨0, some ⟨z1, 0, none⟩, 0, [], [], [], by omega, by omega, rfl, rfl, by simp, rfl, H1.out.1, H1.out.2⟩
  case round =>
    obtain ⟨j, A1, c1, S, M, B, hj, hj6, rfl, hS, hSl, rfl, hT, hb⟩ := hrel
    have HM := Lib.hid (And.intro hT hb)
    have HS := Lib.hid hS
    clear hT hb H1 hS
    by_cases hlt : j < n ∧ j < 60
    · obtain ⟨hlt, hlt6⟩ := hlt
      obtain ⟨x, hx⟩ : ∃ x, L[j]? = some x := ⟨L[j]'(by have := HL.out; omega), List.getElem?_eq_getElem _⟩
      obtain ⟨b0, o0, hA, hb0, k0, k1, k2⟩ := (Ds.below (hN ▸ HR.out.1 : Ds w N A L) HM.out.2).at_ hx
      have htk := Lib.hid ((smade_take L j x hx).trans (by rw [← HS.out]))
      have hle := Lib.hid (rAdd_le HM.out.1.l.dw x)
      have CX := Lib.hid (fun W M B (h : SetIs W s v b g M B) (hL : SetL M B S) => CR.out x (HR.out.2 x (List.mem_of_getElem? hx)) W s v b g M B S h hL (by omega))
      have CY := Lib.hid (fun W (h : MsAt W A1 S) => CD.out W A1 c1 S x h (by omega))
      obtain ⟨⟨d, i⟩, q⟩ := x
      simp only at k0 k1 k2
      have hNr : N ≤ wr.heap.size := by have := HM.out.2.size; omega
      have HK := Lib.hid (And.intro k0 (And.intro k1 k2))
      clear hx
      subst hA
      simp only at CX CY htk hle
      generalize hSl2 : S.length = sl at *
      generalize hRA : rAdd S ((d, i), q) = S2 at *
      generalize addB S ((d, i), q) = rb at *
      go_wp2_with fail
      refine (CX.out _ _ _ HM.out.1.set HM.out.1.l).mono ?_; rintro e w5 ⟨rfl, M5, B5, hl5, hs5, hc5⟩
      have hb5 : Below N wr w5 := ch_below hc5 HM.out.1.lb HM.out.1.lg hNr
      have hMs5 : MsAt w5 A1 S := HM.out.1.at_.ch hc5 (fun k hk e => by have := HM.out.1.far k hk; rcases e with e | e <;> omega)
      have H5 := Lib.hid (And.intro hl5 (And.intro hs5 (And.intro hMs5 (And.intro (HM.out.2.trans hb5) (keep3b hb0 hb5 HK.out)))))
      have hN5 : N ≤ w5.heap.size := Nat.le_trans hNr hb5.size
      clear hl5 hs5 hc5 hb5 hMs5 k0 k1 k2 HK
      obtain ⟨k0, k1, k2⟩ := H5.out.2.2.2.2
      go_wp2_with fail
      refine (CY.out _ H5.out.2.2.1).mono ?_; rintro e w6 ⟨A6, c6, rfl, hM6, hk6, b6⟩
      have hT6 : Two w6 N s v b g A6 S2 M5 B5 := ⟨H5.out.2.1.up b6, H5.out.1, hM6, fun k hk => by
        rcases hk6 k hk with h | h
        · exact HM.out.1.far k h
        · have := H5.out.2.1.ltb
          have := H5.out.2.1.ltg
          omega, HM.out.1.lb, HM.out.1.lg⟩
      have HF := Lib.hid (And.intro hT6 (H5.out.2.2.2.1.trans (below_of_le b6 hN5)))
      clear hM6 hk6 b6 hT6 H5
      go_wp2
      go_roundw
      case rel => exact ⟨j + 1, A6, c6, S2, M5, B5, by omega, by omega, by go_num, htk.out.symm, by have := hle.out; omega, rfl, HF.out.1, HF.out.2⟩
      case measure => simp [intOf]; omega
    · have ht := Lib.hid (show S = (L.take 60).foldl rAdd [] by
        have := HL.out
        rw [HS.out]
        by_cases h : j < n
        · have : j = 60 := by omega
          rw [this]
        · rw [List.take_of_length_le (by omega), List.take_of_length_le (by omega)])
      have HE := Lib.hid (show MadeS w ((L.take 60).foldl rAdd []) (.returned (.tuple #[.pointer (some ⟨s, 0, none⟩), .slice A1 S.length c1])) wr from by
        rw [← ht.out]
        exact ⟨s, v, b, g, M, B, A1, c1, rfl, by rw [hN]; exact hs, by rw [hN]; exact hv, by rw [hN]; exact HM.out.1, by rw [hN]; exact HM.out.2⟩)
      by_cases h1 : j < n
      · have h2 : ¬ j < 60 := by omega
        go_wp2
        go_ret2
        exact HE.out
      · go_wp2
        go_ret2
        exact HE.out
theorem aw18_1 : addB [] ((0, 1), 2) = true := by decide
theorem aw18_2 : rAdd [] ((0, 1), 2) = [((0, 1), 2)] := by decide
theorem aw18_3 : addB [((0, 1), 2)] ((0, 1), 1) = true := by decide
theorem aw18_4 : rAdd [((0, 1), 2)] ((0, 1), 1) = [((0, 1), 1), ((0, 1), 2)] := by decide
theorem aw18_5 : rBase [((0, 1), 1), ((0, 1), 2)] = [((0, 1), 2)] := by decide
theorem aw18_6 : rBeyond [((0, 1), 1), ((0, 1), 2)] = [] := by decide
set_option maxHeartbeats 1000000 in
theorem awake18_any (w : World) : Calls Try.prog 41 #[] w fun e w' => e = .returned (.bool true) ∧ Below w.heap.size w w' := by
  have CN := Lib.hid (ssnew_any w)
  have C1 := Lib.hid (fun W s v b g (h : SetIs W s v b g [] []) => ssadd_in ((0, 1), 2) ⟨by decide, by decide, by decide⟩ W s v b g [] [] [] h SetL.nil (by decide))
  rw [aw18_1, aw18_2] at C1
  have C2 := Lib.hid (fun W s v b g M B (h : SetIs W s v b g M B) (hL : SetL M B [((0, 1), 2)]) => ssadd_in ((0, 1), 1) ⟨by decide, by decide, by decide⟩ W s v b g M B _ h hL (by decide))
  rw [aw18_3, aw18_4] at C2
  have C3' := Lib.hid (fun W s v b g (h : SetIs W s v b g [((0, 1), 2)] []) => ssbase_any W _ _ _ h.at_)
  have C4 := Lib.hid (fun W s v b g (h : SetIs W s v b g [((0, 1), 2)] []) => ssbeyond_any W _ _ _ h.at_ (by decide))
  generalize hN : w.heap.size = N at *
  unfold dtV at C1 C2
  simp only at C1 C2
  go_enter Try.func41, Try.ntmps41
  go_wp2_with fail
  refine CN.out.mono ?_; rintro e w1 ⟨s, v, b, g, rfl, hs, hv, hb, hg, hset, b1⟩
  rw [hN] at hs hv hb hg b1
  have hz1 : N ≤ w1.heap.size := by have := hset.lts; omega
  have hWn := Whole.new w1 25 #[.int .i64 0, .int .i64 1]
  have hlt := Lib.hid (And.intro hset.ltb hset.ltg)
  have H1 := Lib.hid (And.intro (hset.alloc (.cells #[.int .i64 0, .int .i64 1] 25)) (And.intro (b1.alloc hz1 (.cells #[.int .i64 0, .int .i64 1] 25)) hWn))
  clear hset b1 CN hWn
  go_wp2_with fail
  refine (C1.out _ _ _ _ _ H1.out.1).mono ?_; rintro e w2 ⟨rfl, M2, B2, hl2, hs2, hc2⟩
  have hW2 := H1.out.2.2.ch hc2 (by have := hlt.out; omega)
  have H2 := Lib.hid (And.intro hs2 (And.intro hl2 (H1.out.2.1.trans (ch_below hc2 hb hg (by simp; omega)))))
  have k0 : w2.cell? ⟨w1.heap.size, 0, none⟩ = some (.int .i64 0) := by rw [hW2.cell]; rfl
  have k1 : w2.cell? ⟨w1.heap.size, 1, none⟩ = some (.int .i64 1) := by rw [hW2.cell]; rfl
  have hz2 : N ≤ w2.heap.size := by have := H2.out.1.lts; omega
  clear hs2 hl2 hc2 H1 hW2 C1
  go_wp2_with fail
  refine (C2.out _ _ _ _ _ _ _ H2.out.1 H2.out.2.1).mono ?_; rintro e w3 ⟨rfl, M3, B3, hl3, hs3, hc3⟩
  have eM : M3 = [((0, 1), 2)] := hl3.base.symm.trans aw18_5
  have eB : B3 = [] := hl3.beyond.symm.trans aw18_6
  subst eM eB
  have H3 := Lib.hid (And.intro hs3 (H2.out.2.2.trans (ch_below hc3 hb hg hz2)))
  have hz3 : N ≤ w3.heap.size := by have := H3.out.1.lts; omega
  clear hs3 hl3 hc3 H2 C2 k0 k1
  go_wp2_with fail
  refine (C3'.out _ _ _ _ _ H3.out.1).mono ?_; rintro e w4 ⟨A, c, rfl, o4, b4⟩
  obtain ⟨g4, o, hA, hg4, c0, c1, c2⟩ := (Ds.at_ (i := 0) o4.ds (x := ((0, 1), 2)) rfl)
  have H4 := Lib.hid (And.intro (H3.out.1.up b4) (H3.out.2.trans (below_of_le b4 hz3)))
  have hl : ([((0, 1), 2)] : List Dt).length = 1 := rfl
  have hz4 : N ≤ w4.heap.size := by have := H4.out.1.lts; omega
  clear o4 b4 H3 C3' c0 c1
  subst hA
  simp only [hl]
  clear hl
  go_wp2_with fail
  refine (C4.out _ _ _ _ _ H4.out.1).mono ?_; rintro e w5 ⟨A5, c5, rfl, o5, b5⟩
  have H5 := Lib.hid (H4.out.2.trans (below_of_le b5 hz4))
  have hl : ([] : List Dt).length = 0 := rfl
  simp only [hl]
  clear b5 o5 hl
  go_wp2
  go_ret
  exact ⟨rfl, H5.out⟩
end Go.Proofs.Ytailbppddnegoaa
