/- Layer 18 (seen): the walk of the law SeenAdds. -/
import Derived.Test.YtailbppddnegoaaZB
import Derived.Test.YtailbppddnegoaaO8
import Derived.Test.YtailbppddnegoaaO5
namespace Go.Proofs.Ytailbppddnegoaa
open Go.RowKit
set_option linter.unusedVariables false
set_option maxRecDepth 100000
attribute [local go_sem ↓] Go.wp_at_zero Go.wp_at_succ

set_option maxHeartbeats 2000000 in
theorem seenAdds_in (w : World) (Al : Option Addr) (cl : Nat) (L : List Dt) (x : Dt) (hr : MsAt w Al L) (hok : ∀ y ∈ L, dtOk y) (hox : dtOk x) (hn : L.length ≤ 60) :
    Calls Try.prog 8 #[.slice Al L.length cl, dtV x] w fun e w' => e = .returned (.bool true) ∧ Below w.heap.size w w' := by
  have C9 := Lib.hid awake18_any
  have CN := Lib.hid (fun W => ssnew_any W)
  have CR := Lib.hid (fun (x : Dt) (ok : dtOk x) (W : World) s v b g (M B S : List Dt) (h : SetIs W s v b g M B) (hL : SetL M B S) (hl : S.length ≤ 60) => ssadd_in x ok W s v b g M B S h hL (by omega))
  have CD := Lib.hid (fun (W : World) (A : Option Addr) (c : Nat) (S : List Dt) (x : Dt) (hr : MsAt W A S) (hl : S.length ≤ 60) => radd18_any W A c S x hr (by omega))
  have CH := Lib.hid (fun W s v b g (M B S : List Dt) (h : SetIs W s v b g M B) (hL : SetL M B S) => sshas_any x hox W _ M B h.at_)
  have CG := Lib.hid (fun (W : World) (A : Option Addr) (c : Nat) (S : List Dt) (hr : MsAt W A S) (hl : S.length ≤ 60) => rhas_any W W.heap.size A c S x hr (Nat.le_refl _) (by omega))
  have CI := Lib.hid (fun (W : World) lo s v b g A c (S M B : List Dt) (h : Two W lo s v b g A S M B) (hl : S.length ≤ 61) => is18_any W lo s v b g A c S M B h (by omega))
  have B0 := (Below.refl w.heap.size w).alloc (Nat.le_refl _) (.cells #[.int .i64 x.1.1, .int .i64 x.1.2, .int .i64 x.2] 27)
  have H0 := Lib.hid (And.intro (C3.new w x.1.1 x.1.2 x.2 27) B0)
  have HR := Lib.hid (And.intro (show MsAt w Al L from hr) hok)
  have hs0 : (w.alloc (.cells #[.int .i64 x.1.1, .int .i64 x.1.2, .int .i64 x.2] 27)).heap.size = w.heap.size + 1 := by simp
  have HS0 := Lib.hid hs0
  obtain ⟨⟨d, i⟩, s0⟩ := x
  simp only at H0 HS0
  generalize hlen : L.length = n at *
  have HL := Lib.hid hlen
  generalize hN : w.heap.size = N at *
  clear hr hok B0 hlen hs0
  unfold dtV at CR CD CH CG
  unfold dtV
  go_enter Try.func8, Try.ntmps8
  go_wp2_with fail
  generalize (w.alloc (.cells #[.int .i64 d, .int .i64 i, .int .i64 s0] 27)) = W0 at *
  have hsz0 := HS0.out
  refine (CN.out _).mono ?_; rintro e w1 ⟨s, v, b, g, rfl, hs, hv, hb, hg, hset, b1⟩
  rw [hsz0] at hs hv hb hg
  have hz1 : N + 1 ≤ w1.heap.size := by have := hset.lts; omega
  have hoe := own_e3 w1 27 w1.heap.size (Nat.le_refl _)
  have H1 := Lib.hid (And.intro (show Two (w1.alloc (.cells #[] 27)) (N + 1) s v b g (some ⟨w1.heap.size, 0, none⟩) [] [] [] from
    ⟨hset.alloc _, SetL.nil, MsAt.own (by simpa [dts] using hoe), fun k hk => by simp [bl] at hk; have := hset.ltb; have := hset.ltg; omega, hb, hg⟩) (And.intro ((H0.out.1.up (by omega) b1).up (by omega) ((Below.refl _ _).alloc (Nat.le_refl _) (.cells #[] 27))) ((H0.out.2.trans (below_of_le b1 (by omega))).alloc (by omega) (.cells #[] 27))))
  clear hset b1 CN hoe H0 hsz0 HS0
  go_wp2_with fail
  generalize hq1 : w1.heap.size = q1 at *
  generalize (w1.alloc (.cells #[] 27)) = W1 at *
  go_loopw [6, 7] (fun y i' wr => ∃ (j : Nat) (A1 : Option Addr) (c1 : Nat) (S M B : List Dt), j ≤ n ∧ i' = .int .i64 j ∧ S.length ≤ j ∧ y = .slice A1 S.length c1 ∧ Two wr (N + 1) s v b g A1 S M B ∧ C3 N d i s0 wr ∧ Below N w wr) (fun _ i _ => n - (intOf i).toNat)
  case atStart => exact ⟨0, some ⟨q1, 0, none⟩, 0, [], [], [], by omega, rfl, by simp, rfl, H1.out.1, H1.out.2.1, H1.out.2.2⟩
  case round =>
    obtain ⟨j, A1, c1, S, M, B, hj, rfl, hSl, rfl, hT, h3, hb'⟩ := hrel
    have HM := Lib.hid (And.intro hT (And.intro h3 hb'))
    have hNr : N < wr.heap.size := World.block_lt_of_cell? wr _ h3.1
    clear hT h3 hb' H1
    by_cases hlt : j < n
    · obtain ⟨x, hx⟩ : ∃ x, L[j]? = some x := ⟨L[j]'(by have := HL.out; omega), List.getElem?_eq_getElem _⟩
      obtain ⟨b0, o0, hA, hb0, k0, k1, k2⟩ := (Ds.below (hN ▸ HR.out.1 : Ds w N Al L) HM.out.2.2).at_ hx
      have hle := Lib.hid (rAdd_le HM.out.1.l.dw x)
      have hgt := rAdd_gt HM.out.1.l.dw x
      have CX := Lib.hid (fun W M B (h : SetIs W s v b g M B) (hL : SetL M B S) => CR.out x (HR.out.2 x (List.mem_of_getElem? hx)) W s v b g M B S h hL (by omega))
      have CY := Lib.hid (fun W (h : MsAt W A1 S) => CD.out W A1 c1 S x h (by omega))
      obtain ⟨⟨x1, x2⟩, x3⟩ := x
      simp only at k0 k1 k2
      have HK := Lib.hid (And.intro k0 (And.intro k1 k2))
      clear hx
      subst hA
      simp only at CX CY hle hgt
      generalize hSl2 : S.length = sl at *
      generalize hRA : rAdd S ((x1, x2), x3) = S2 at *
      have CZ := Lib.hid (fun W A c (M B : List Dt) (h : Two W (N + 1) s v b g A S2 M B) => CI.out W (N + 1) s v b g A c S2 M B h (by have := hle.out; omega))
      generalize addB S ((x1, x2), x3) = rb at *
      generalize hS2 : S2.length = s2 at *
      have HS2 := Lib.hid hS2
      clear hS2
      subst hgt
      go_wp2_with fail
      refine (CY.out _ HM.out.1.at_).mono ?_; rintro e w5 ⟨A5, c5, he, hM5, hk5, b5⟩
      rw [HS2.out] at he
      subst he
      have H5 := Lib.hid (And.intro (HM.out.1.set.up b5) (And.intro hM5 (And.intro (C3.up HM.out.2.1 hNr b5) (And.intro (HM.out.2.2.trans (below_of_le b5 (by omega))) (And.intro (keep3b (B := N) (by omega) (below_of_le b5 (by omega)) HK.out) (show ∀ k, bl A5 = some k → N + 1 ≤ k ∧ k ≠ b ∧ k ≠ g from fun k hk => by
        rcases hk5 k hk with h | h
        · exact HM.out.1.far k h
        · have := HM.out.1.set.ltb
          have := HM.out.1.set.ltg
          omega))))))
      have hN5 : N + 1 ≤ w5.heap.size := by have := b5.size; omega
      clear hM5 hk5 b5 k0 k1 k2 HK
      obtain ⟨k0, k1, k2⟩ := H5.out.2.2.2.2.1
      go_wp2_with fail
      refine (CX.out _ _ _ H5.out.1 HM.out.1.l).mono ?_; rintro e w6 ⟨rfl, M6, B6, hl6, hs6, hc6⟩
      have hb6 : Below (N + 1) w5 w6 := ch_below hc6 HM.out.1.lb HM.out.1.lg hN5
      have hT6 : Two w6 (N + 1) s v b g A5 S2 M6 B6 := ⟨hs6, hl6, H5.out.2.1.ch hc6 (fun k hk e => by have := H5.out.2.2.2.2.2 k hk; rcases e with e | e <;> omega), H5.out.2.2.2.2.2, HM.out.1.lb, HM.out.1.lg⟩
      have H6 := Lib.hid (And.intro hT6 (And.intro (C3.blk H5.out.2.2.1 (hb6.block N (by omega))) (H5.out.2.2.2.1.trans (hb6.mono (by omega)))))
      have hN6 : N < w6.heap.size := World.block_lt_of_cell? w6 _ H6.out.2.1.1
      clear hl6 hs6 hc6 hb6 hT6 H5 k0 k1 k2
      go_wp2_with fail
      refine (CZ.out _ A5 c5 _ _ H6.out.1).mono ?_; rintro e w7 ⟨rfl, b7⟩
      have HF := Lib.hid (And.intro (H6.out.1.up b7) (And.intro (C3.up H6.out.2.1 hN6 b7) (H6.out.2.2.trans (below_of_le b7 (by omega)))))
      clear b7 H6
      go_wp2
      go_roundw
      case rel => exact ⟨j + 1, A5, c5, S2, M6, B6, by omega, by go_num, by have := hle.out; have := HS2.out; omega, by rw [HS2.out], HF.out.1, HF.out.2.1, HF.out.2.2⟩
      case measure => simp [intOf]; omega
    · have hj' : j = n := by omega
      subst hj'
      have PH := Lib.hid (fun W h => CH.out W s v b g M B S h HM.out.1.l)
      rw [HM.out.1.l.has] at PH
      have QH := Lib.hid (fun W h => CG.out W A1 c1 S h (by omega))
      generalize decide (((d, i), s0) ∈ S) = rh at *
      generalize S.length = lm at *
      have e1 : (rh == rh) = true := by simp
      go_wp2_with fail
      refine wp_region_held_drew (S := (fun W => W.cell? ⟨N, 0, none⟩ = some (.int .i64 d) ∧ W.cell? ⟨N, 1, none⟩ = some (.int .i64 i) ∧ W.cell? ⟨N, 2, none⟩ = some (.int .i64 s0))) (by kernel_rfl) ?_ (fun hHeld => ?_)
      · (try dsimp only); exact HM.out.2.1
      have G0 := Lib.hid (HM.out.1.drew)
      have hs0 : N < wr.drew.heap.size := hNr
      have R0 := Lib.hid (HM.out.2.2.drew)
      refine wpAnyH_take (i := 0) (v := ?_) rfl (by kernel_rfl) (by kernel_rfl) (by kernel_rfl) (fun _ _ _ h => h) (Or.inl ⟨by rfl, ?_⟩) (by assumption) ?_
      rotate_left
      first | (focus ((intro w hSw; (try dsimp only at hSw); go_simp); (try with_reducible rfl); done)) | fail
      try simp only [Act.put, List.getElem_toArray, List.getElem_cons_zero, List.setIfInBounds_toArray, List.set_cons_zero, List.set_cons_succ]
      refine wpAnyH_take (i := 1) (v := ?_) rfl (by kernel_rfl) (by kernel_rfl) (by kernel_rfl) (fun _ _ _ h => h) (Or.inl ⟨by rfl, ?_⟩) (by assumption) ?_
      rotate_left
      first | (focus ((intro w hSw; (try dsimp only at hSw); go_simp); (try with_reducible rfl); done)) | fail
      try simp only [Act.put, List.getElem_toArray, List.getElem_cons_zero, List.getElem_cons_succ, List.setIfInBounds_toArray, List.set_cons_zero, List.set_cons_succ]
      refine wpAnyH_take (i := 3) (v := ?_) rfl (by kernel_rfl) (by kernel_rfl) (by kernel_rfl) (fun _ _ _ h => h) (Or.inl ⟨by rfl, ?_⟩) (by assumption) ?_
      rotate_left
      first | (focus ((intro w hSw; (try dsimp only at hSw); go_simp); (try with_reducible rfl); done)) | fail
      try simp only [Act.put, List.getElem_toArray, List.getElem_cons_zero, List.getElem_cons_succ, List.setIfInBounds_toArray, List.set_cons_zero, List.set_cons_succ]
      refine wpAnyH_take (i := 4) (v := ?_) rfl (by kernel_rfl) (by kernel_rfl) (by kernel_rfl) (fun _ _ _ h => h) (Or.inl ⟨by rfl, ?_⟩) (by assumption) ?_
      rotate_left
      first | (focus ((intro w hSw; (try dsimp only at hSw); go_simp); (try with_reducible rfl); done)) | fail
      try simp only [Act.put, List.getElem_toArray, List.getElem_cons_zero, List.getElem_cons_succ, List.setIfInBounds_toArray, List.set_cons_zero, List.set_cons_succ]
      refine wpAnyH_ready (rs := [2]) (by kernel_rfl) (by simp) ?_
      refine AllReadyH.cons rfl (fun K hK => ?_) AllReadyH.nil
      go_simp
      refine (PH.out _ G0.out.set).mono ?_; rintro e w5 ⟨rfl, b5⟩
      go_wp2_with fail
      refine hK.out _ _ ?_ (fun hHeld => ?_)
      · (try dsimp only); exact C3.up (W := wr.drew) HM.out.2.1 hs0 b5
      clear hK K
      try simp only [Act.put, List.getElem_toArray, List.getElem_cons_zero, List.getElem_cons_succ, List.setIfInBounds_toArray, List.set_cons_zero, List.set_cons_succ]
      have G1 := Lib.hid (And.intro (G0.out.up b5) (And.intro (show C3 N d i s0 w5 from hHeld) (R0.out.trans (below_of_le b5 (by omega)))))
      have hs1 : N < w5.heap.size := World.block_lt_of_cell? w5 _ G1.out.2.1.1
      clear b5 G0 R0
      refine wpAnyH_ready (rs := [5]) (by kernel_rfl) (by simp) ?_
      refine AllReadyH.cons rfl (fun K hK => ?_) AllReadyH.nil
      go_simp
      refine (QH.out _ G1.out.1.at_).mono ?_; rintro e w6 ⟨rfl, b6⟩
      go_wp2_with fail
      refine hK.out _ _ ?_ (fun hHeld => ?_)
      · (try dsimp only); exact C3.up G1.out.2.1 hs1 b6
      clear hK K
      try simp only [Act.put, List.getElem_toArray, List.getElem_cons_zero, List.getElem_cons_succ, List.setIfInBounds_toArray, List.set_cons_zero, List.set_cons_succ]
      have G2 := Lib.hid (And.intro (show C3 N d i s0 w6 from hHeld) (G1.out.2.2.trans (below_of_le b6 (by omega))))
      have hs2 : N < w6.heap.size := World.block_lt_of_cell? w6 _ G2.out.1.1
      clear b6 G1
      refine wpAnyH_take (i := 6) (v := ?_) rfl (by kernel_rfl) (by kernel_rfl) (by kernel_rfl) (fun _ _ _ h => h) (Or.inl ⟨by rfl, ?_⟩) (by assumption) ?_
      rotate_left
      first | (focus ((intro w hSw; (try dsimp only at hSw); go_simp); (try with_reducible rfl); done)) | fail
      try simp only [Act.put, List.getElem_toArray, List.getElem_cons_zero, List.getElem_cons_succ, List.setIfInBounds_toArray, List.set_cons_zero, List.set_cons_succ]
      refine wpAnyH_take (i := 7) (v := ?_) rfl (by kernel_rfl) (by kernel_rfl) (by kernel_rfl) (fun _ _ _ h => h) (Or.inl ⟨by rfl, ?_⟩) (by assumption) ?_
      rotate_left
      first | (focus ((intro w hSw; (try dsimp only at hSw); go_simp); (try with_reducible rfl); done)) | fail
      try simp only [Act.put, List.getElem_toArray, List.getElem_cons_zero, List.getElem_cons_succ, List.setIfInBounds_toArray, List.set_cons_zero, List.set_cons_succ]
      refine wpAnyH_ready (rs := [8]) (by kernel_rfl) (by simp) ?_
      refine AllReadyH.cons rfl (fun K hK => ?_) AllReadyH.nil
      go_simp
      refine (C9.out _).mono ?_; rintro e w9 ⟨rfl, b9⟩
      go_wp2_with fail
      refine hK.out _ _ ?_ (fun hHeld => ?_)
      · (try dsimp only); exact C3.up G2.out.1 hs2 b9
      clear hK K
      try simp only [Act.put, List.getElem_toArray, List.getElem_cons_zero, List.getElem_cons_succ, List.setIfInBounds_toArray, List.set_cons_zero, List.set_cons_succ]
      have G3 := Lib.hid (G2.out.2.trans (below_of_le b9 (by omega)))
      clear b9 G2
      refine wpAnyH_take (i := 9) (v := ?_) rfl (by kernel_rfl) (by kernel_rfl) (by kernel_rfl) (fun _ _ _ h => h) (Or.inl ⟨by rfl, ?_⟩) (by assumption) ?_
      rotate_left
      first | (focus ((intro w hSw; (try dsimp only at hSw); go_simp); (try with_reducible rfl); done)) | fail
      try simp only [Act.put, List.getElem_toArray, List.getElem_cons_zero, List.getElem_cons_succ, List.setIfInBounds_toArray, List.set_cons_zero, List.set_cons_succ]
      refine wpAnyH_take (i := 10) (v := ?_) rfl (by kernel_rfl) (by kernel_rfl) (by kernel_rfl) (fun _ _ _ h => h) (Or.inl ⟨by rfl, ?_⟩) (by assumption) ?_
      rotate_left
      first | (focus ((intro w hSw; (try dsimp only at hSw); go_simp); (try with_reducible rfl); done)) | fail
      try simp only [Act.put, List.getElem_toArray, List.getElem_cons_zero, List.getElem_cons_succ, List.setIfInBounds_toArray, List.set_cons_zero, List.set_cons_succ]
      refine wpAnyH_done (by kernel_rfl) ?_ _
      go_wp2
      go_ret
      exact ⟨rfl, G3.out⟩
theorem seenAdds_law (w : World) {vl vd : Value} (hl : IsRecs 3 w vl) (hd : IsDot vd) :
    Calls Try.prog 8 #[vl, vd] w fun e w' => e = .returned (.bool true) ∧ Below w.heap.size w w' := by
  obtain ⟨Al, cl, L, rfl, hlc, hcm, hrl, hokl⟩ := recs_list hl
  obtain ⟨d, i, s, rfl, hd1, hd2, hd3⟩ := hd
  have hmx : maxLen ≤ 9223372036854775807 := by decide
  by_cases hn : L.length ≤ 60
  · exact seenAdds_in w Al cl L ((d, i), s) hrl (fun y hy => (hokl y hy).ok) (dB.ok (x := ((d, i), s)) ⟨hd1, hd2, hd3⟩) hn
  · have C9 := Lib.hid awake18_any
    have h1 : 60 < L.length := by omega
    have hc8 : L.length ≤ 9223372036854775807 := by omega
    have hs0 : (w.alloc (.cells #[.int .i64 d, .int .i64 i, .int .i64 s] 27)).heap.size = w.heap.size + 1 := by simp
    have B0 := Lib.hid ((Below.refl w.heap.size w).alloc (Nat.le_refl _) (.cells #[.int .i64 d, .int .i64 i, .int .i64 s] 27))
    generalize L.length = n at *
    unfold dotV
    clear hn hrl hokl hl hmx hcm
    go_enter Try.func8, Try.ntmps8
    go_wp2_with fail
    refine (C9.out _).mono ?_; rintro e w2 ⟨rfl, b2⟩
    go_wp2
    go_ret
    exact ⟨rfl, B0.out.trans (below_of_le b2 (by omega))⟩
end Go.Proofs.Ytailbppddnegoaa
