/- Layer 17 (vector): Meet, Covers, Sum. -/
import Derived.Test.YtailbppddnegoaaY6
import Derived.WalkLawsBesides
namespace Go.Proofs.Ytailbppddnegoaa
open Go.RowKit
set_option linter.unusedVariables false
set_option maxRecDepth 100000
attribute [local go_sem ↓] Go.wp_at_zero Go.wp_at_succ

theorem VecAt.keep {w w' : World} {p : Option Addr} {M : List Dt} (h : VecAt w p M) (hb : Below w.heap.size w w') : VecAt w' p M := h.up hb
def meetF (M O : List Dt) (x : Dt) : Dt := (x.1, min (mget M x.1) (mget O x.1))
theorem pmeet_def (M O : List Dt) : pmeet M O = rjoin [] (M.map (meetF M O)) := rfl
/-- Two whole numbers in block N. -/
def C2 (N : Nat) (d i : Int) (W : World) : Prop := W.cell? ⟨N, 0, none⟩ = some (.int .i64 d) ∧ W.cell? ⟨N, 1, none⟩ = some (.int .i64 i)
theorem C2.mk_ {P : Nat} {d i : Int} {W : World} {t : TypeId} (hW : Whole W P t #[.int .i64 d, .int .i64 i]) : C2 P d i W := ⟨by rw [hW.cell]; rfl, by rw [hW.cell]; rfl⟩
set_option maxHeartbeats 1000000 in
theorem vcmeet_in (w : World) (v b : Nat) (q : Option Addr) (M O : List Dt) (h : VecIs w v b M) (ho : VecAt w q O) :
    Calls Try.prog 34 #[.pointer (some ⟨v, 0, none⟩), .pointer q] w (NewVec w (pmeet M O)) := by
  have CN := Lib.hid (vcnew_any w)
  have CA := Lib.hid (fun W hW => vcactors_any W (some ⟨v, 0, none⟩) M hW)
  have CG := Lib.hid (fun (a : Ac) (ok : acOk a) (W : World) hW => vcget_any a ok W (some ⟨v, 0, none⟩) M hW)
  have CO := Lib.hid (fun (a : Ac) (ok : acOk a) (W : World) hW => vcget_any a ok W q O hW)
  have CR := Lib.hid (fun (a : Ac) (n : Int) (W : World) (M : List Dt) v b (hW : VecIs W v b M) => vcraise_any a n W v b M hW)
  have HV := Lib.hid (And.intro h.at_ ho)
  have hvw := Lib.hid h.2.2
  have hn := h.2.2.len
  generalize hlen' : M.length = n at *
  have HL := Lib.hid hlen'
  generalize hN : w.heap.size = N at *
  clear hlen' h ho
  unfold acV at CR CG CO
  go_enter Try.func34, Try.ntmps34
  go_wp2_with fail
  refine CN.out.mono ?_; rintro e w1 ⟨rfl, hv1, hb1⟩
  have H1 := Lib.hid (And.intro hv1 hb1)
  have hz1 : N + 2 ≤ w1.heap.size := by have := hv1.ltv; omega
  clear hv1 hb1 CN
  go_wp2_with fail
  refine (CA.out _ (HV.out.1.up (by rw [hN]; exact H1.out.2))).mono ?_; rintro e w2 ⟨A, c, he, hc1, hc2, hA, hblA, hb2⟩
  rw [HL.out] at he hc1
  subst he
  have HA := Lib.hid (And.intro hA hblA)
  have hN2 := hb2.size
  have R0 := Lib.hid (And.intro (show VecIs w2 (N + 1) N (rjoin [] ((M.take 0).map (meetF M O))) from H1.out.1.up hb2) (And.intro (Ch.refl (fun k => k = N) w2) (H1.out.2.trans (below_of_le hb2 (by omega)))))
  clear hA hc2 hblA hb2 CA H1
  go_wp2_with fail
  go_loopw [12] (fun i wr => ∃ (j : Nat), j ≤ n ∧ i = .int .i64 j ∧ VecIs wr (N + 1) N (rjoin [] ((M.take j).map (meetF M O))) ∧ Ch (fun k => k = N) w2 wr ∧ Below N w wr) (fun i _ => n - (intOf i).toNat)
  case atStart => exact ⟨0, by omega, rfl, R0.out⟩
  case round =>
    obtain ⟨j, hj, rfl, hO⟩ := hrel
    have HO := Lib.hid hO
    clear hO R0
    by_cases hlt : j < n
    · obtain ⟨x, hx⟩ : ∃ x, M[j]? = some x := ⟨M[j]'(by have := HL.out; omega), List.getElem?_eq_getElem _⟩
      have hxa : (M.map (·.1))[j]? = some x.1 := by rw [List.getElem?_map, hx]; rfl
      obtain ⟨b0, o0, hAe, hb0, c0, c1⟩ := (HA.out.1.ch (Nat.le_refl _) HO.out.2.1 (fun k _ hk e => by have := HA.out.2 k hk; omega)).at_ hxa
      have hok : acOk x.1 := acOk_right (n := x.2) (hvw.out.2 x (List.mem_of_getElem? hx))
      have htk := Lib.hid (show rjoin [] ((M.take (j + 1)).map (meetF M O)) = rraise (rjoin [] ((M.take j).map (meetF M O))) x.1 (min (mget M x.1) (mget O x.1)) by rw [List.take_add_one, hx, List.map_append]; exact rjoin_snoc _ _ (meetF M O x))
      obtain ⟨⟨d, i⟩, s⟩ := x
      simp only at c0 c1 hok
      have hNr : N < wr.heap.size := HO.out.1.ltb
      have HH := Lib.hid (And.intro (HO.out.1.alloc (.cells #[.int .i64 d, .int .i64 i] 25)) (And.intro (HO.out.2.1.trans (Ch.alloc_ (fun k => k = N) wr (.cells #[.int .i64 d, .int .i64 i] 25)) (fun k _ h => h)) (And.intro (HO.out.2.2.alloc (by omega) (.cells #[.int .i64 d, .int .i64 i] 25)) (Whole.new wr 25 #[.int .i64 d, .int .i64 i]))))
      have CX := Lib.hid (fun n W hW => CR.out (d, i) n W (rjoin [] ((M.take j).map (meetF M O))) (N + 1) N hW)
      have CY := Lib.hid (fun W hW => CG.out (d, i) hok W hW)
      have CZ := Lib.hid (fun W hW => CO.out (d, i) hok W hW)
      clear hx hxa
      subst hAe
      generalize mget M (d, i) = qa at *
      generalize mget O (d, i) = qb at *
      go_wp2_with fail
      obtain ⟨hv4, hch4, hb4, hW4⟩ := HH.out
      generalize hP : wr.heap.size = P at *
      generalize (wr.alloc (.cells #[.int .i64 d, .int .i64 i] 25)) = W4 at *
      have HW := Lib.hid (And.intro hv4 (And.intro hch4 (And.intro hb4 hW4)))
      have hP4 : P < W4.heap.size := hW4.lt
      clear hv4 hch4 hb4 hW4 HH HA
      refine wp_region_held_drew (S := (fun W => W.cell? ⟨P, 0, none⟩ = some (.int .i64 d) ∧ W.cell? ⟨P, 1, none⟩ = some (.int .i64 i))) (by kernel_rfl) ?_ (fun hHeld => ?_)
      · (try dsimp only); exact C2.mk_ HW.out.2.2.2.drew
      refine wpAnyH_take (i := 0) (v := ?_) rfl (by kernel_rfl) (by kernel_rfl) (by kernel_rfl) (fun _ _ _ h => h) (Or.inl ⟨by rfl, ?_⟩) (by assumption) ?_
      rotate_left
      · (intro w hSw; (try dsimp only at hSw); go_simp); try with_reducible rfl
      try simp only [Act.put, List.getElem_toArray, List.getElem_cons_zero, List.setIfInBounds_toArray, List.set_cons_zero, List.set_cons_succ]
      refine wpAnyH_take (i := 1) (v := ?_) rfl (by kernel_rfl) (by kernel_rfl) (by kernel_rfl) (fun _ _ _ h => h) (Or.inl ⟨by rfl, ?_⟩) (by assumption) ?_
      rotate_left
      · (intro w hSw; (try dsimp only at hSw); go_simp); try with_reducible rfl
      try simp only [Act.put, List.getElem_toArray, List.getElem_cons_zero, List.getElem_cons_succ, List.setIfInBounds_toArray, List.set_cons_zero, List.set_cons_succ]
      refine wpAnyH_take (i := 2) (v := ?_) rfl (by kernel_rfl) (by kernel_rfl) (by kernel_rfl) (fun _ _ _ h => h) (Or.inl ⟨by rfl, ?_⟩) (by assumption) ?_
      rotate_left
      · (intro w hSw; (try dsimp only at hSw); go_simp); try with_reducible rfl
      try simp only [Act.put, List.getElem_toArray, List.getElem_cons_zero, List.getElem_cons_succ, List.setIfInBounds_toArray, List.set_cons_zero, List.set_cons_succ]
      refine wpAnyH_take (i := 3) (v := ?_) rfl (by kernel_rfl) (by kernel_rfl) (by kernel_rfl) (fun _ _ _ h => h) (Or.inl ⟨by rfl, ?_⟩) (by assumption) ?_
      rotate_left
      · (intro w hSw; (try dsimp only at hSw); go_simp); try with_reducible rfl
      try simp only [Act.put, List.getElem_toArray, List.getElem_cons_zero, List.getElem_cons_succ, List.setIfInBounds_toArray, List.set_cons_zero, List.set_cons_succ]
      refine wpAnyH_take (i := 5) (v := ?_) rfl (by kernel_rfl) (by kernel_rfl) (by kernel_rfl) (fun _ _ _ h => h) (Or.inl ⟨by rfl, ?_⟩) (by assumption) ?_
      rotate_left
      · (intro w hSw; (try dsimp only at hSw); go_simp); try with_reducible rfl
      try simp only [Act.put, List.getElem_toArray, List.getElem_cons_zero, List.getElem_cons_succ, List.setIfInBounds_toArray, List.set_cons_zero, List.set_cons_succ]
      refine wpAnyH_take (i := 6) (v := ?_) rfl (by kernel_rfl) (by kernel_rfl) (by kernel_rfl) (fun _ _ _ h => h) (Or.inl ⟨by rfl, ?_⟩) (by assumption) ?_
      rotate_left
      · (intro w hSw; (try dsimp only at hSw); go_simp); try with_reducible rfl
      try simp only [Act.put, List.getElem_toArray, List.getElem_cons_zero, List.getElem_cons_succ, List.setIfInBounds_toArray, List.set_cons_zero, List.set_cons_succ]
      refine wpAnyH_ready (rs := [4]) (by kernel_rfl) (by simp) ?_
      refine AllReadyH.cons rfl (fun K hK => ?_) AllReadyH.nil
      go_simp
      refine (CY.out _ (HV.out.1.up (by rw [hN]; exact HW.out.2.2.1.drew))).mono ?_; rintro e w5 ⟨rfl, b5⟩
      go_wp2_with fail
      refine hK.out _ _ ?_ (fun hHeld => ?_)
      · (try dsimp only); exact C2.mk_ (Whole.below HW.out.2.2.2.drew b5 hP4)
      clear hK K
      try simp only [Act.put, List.getElem_toArray, List.getElem_cons_zero, List.getElem_cons_succ, List.setIfInBounds_toArray, List.set_cons_zero, List.set_cons_succ]
      have HW5 := Lib.hid (And.intro (VecIs.up HW.out.1.drew b5) (And.intro (HW.out.2.1.drew.trans (below_ch (S := fun k => k = N) b5) (fun k _ h => h)) (And.intro (HW.out.2.2.1.drew.trans (below_of_le b5 (by show N ≤ W4.heap.size; omega))) (Whole.below HW.out.2.2.2.drew b5 hP4))))
      have hz5 : P < w5.heap.size := HW5.out.2.2.2.lt
      clear b5 HW
      refine wpAnyH_ready (rs := [7]) (by kernel_rfl) (by simp) ?_
      refine AllReadyH.cons rfl (fun K hK => ?_) AllReadyH.nil
      go_simp
      refine (CZ.out _ (HV.out.2.up (by rw [hN]; exact HW5.out.2.2.1))).mono ?_; rintro e w6 ⟨rfl, b6⟩
      go_wp2_with fail
      refine hK.out _ _ ?_ (fun hHeld => ?_)
      · (try dsimp only); exact C2.mk_ (Whole.below HW5.out.2.2.2 b6 hz5)
      clear hK K
      try simp only [Act.put, List.getElem_toArray, List.getElem_cons_zero, List.getElem_cons_succ, List.setIfInBounds_toArray, List.set_cons_zero, List.set_cons_succ]
      have HW6 := Lib.hid (And.intro (VecIs.up HW5.out.1 b6) (And.intro (HW5.out.2.1.trans (below_ch (S := fun k => k = N) b6) (fun k _ h => h)) (And.intro (HW5.out.2.2.1.trans (below_of_le b6 (by omega))) (Whole.below HW5.out.2.2.2 b6 hz5))))
      have hz6 : P < w6.heap.size := HW6.out.2.2.2.lt
      clear b6 HW5
      refine wpAnyH_ready (rs := [8]) (by kernel_rfl) (by simp) ?_
      refine AllReadyH.cons rfl (fun K hK => ?_) AllReadyH.nil
      go_simp
      refine hK.out _ _ ?_ (fun hHeld => ?_)
      · (try dsimp only); exact C2.mk_ HW6.out.2.2.2
      clear hK K
      try simp only [Act.put, List.getElem_toArray, List.getElem_cons_zero, List.getElem_cons_succ, List.setIfInBounds_toArray, List.set_cons_zero, List.set_cons_succ]
      refine wpAnyH_ready (rs := [9]) (by kernel_rfl) (by simp) ?_
      refine AllReadyH.cons rfl (fun K hK => ?_) AllReadyH.nil
      go_simp
      refine (CX.out _ _ HW6.out.1).mono ?_; rintro e w7 ⟨rfl, hv7, hc7⟩
      go_wp2_with fail
      refine hK.out _ _ ?_ (fun hHeld => ?_)
      · (try dsimp only); exact C2.mk_ (Whole.ch HW6.out.2.2.2 hc7 (by omega))
      clear hK K
      try simp only [Act.put, List.getElem_toArray, List.getElem_cons_zero, List.getElem_cons_succ, List.setIfInBounds_toArray, List.set_cons_zero, List.set_cons_succ]
      have HF := Lib.hid (And.intro hv7 (And.intro (HW6.out.2.1.trans hc7 (fun k _ h => h)) (HW6.out.2.2.1.trans (hc7.below (fun k hk e => by have e' : k = N := e; omega) (by omega)))))
      clear hv7 hc7
      refine wpAnyH_done (by kernel_rfl) ?_ _
      go_wp2
      go_roundw
      case rel => exact ⟨j + 1, by omega, by go_num, by rw [htk.out]; exact HF.out.1, HF.out.2⟩
      case measure => simp [intOf]; omega
    · have hj' : j = n := by omega
      subst hj'
      have ht := Lib.hid (show M.take j = M by rw [List.take_of_length_le (by have := HL.out; omega)])
      have HE := Lib.hid (show NewVec w (pmeet M O) (.returned (.pointer (some ⟨N + 1, 0, none⟩))) wr from ⟨N + 1, N, rfl, by omega, by omega, by rw [pmeet_def]; have := HO.out.1; rw [ht.out] at this; exact this, by rw [hN]; exact HO.out.2.2⟩)
      clear HA
      go_wp2
      go_ret
      exact HE.out
theorem vcmeet_vnil (w : World) (q : Option Addr) :
    Calls Try.prog 34 #[.pointer none, .pointer q] w (NewVec w []) := by
  have CN := Lib.hid (vcnew_any w)
  have CA := Lib.hid (fun W => vcactors_any W none [] (VecAt.nil W))
  generalize hN : w.heap.size = N at *
  go_enter Try.func34, Try.ntmps34
  go_wp2_with fail
  refine CN.out.mono ?_; rintro e w1 ⟨rfl, hv1, hb1⟩
  have H1 := Lib.hid (And.intro hv1 hb1)
  clear hv1 hb1 CN
  go_wp2_with fail
  refine (CA.out _).mono ?_; rintro e w2 ⟨A, c, rfl, hc1, hc2, hA, hblA, hb2⟩
  have HE := Lib.hid (show NewVec w [] (.returned (.pointer (some ⟨N + 1, 0, none⟩))) w2 from ⟨N + 1, N, rfl, by omega, by omega, H1.out.1.up hb2, by rw [hN]; exact H1.out.2.trans (below_of_le hb2 (by have := H1.out.2.size; omega))⟩)
  clear CA hA hblA hb2 H1
  go_wp2_with fail
  refine wp_loop_rounds 1 ?_
  rw [rounds_succ]
  go_wp2
  go_ret
  exact HE.out
theorem vcmeet_any (w : World) (p q : Option Addr) (M O : List Dt) (h : VecAt w p M) (ho : VecAt w q O) :
    Calls Try.prog 34 #[.pointer p, .pointer q] w (NewVec w (rmeet M O)) := by
  rcases h with ⟨rfl, rfl⟩ | ⟨v, b, rfl, h⟩
  · exact vcmeet_vnil w q
  · rw [← pmeet_eq h.2.2 ho.vw]
    exact vcmeet_in w v b q M O h ho
set_option maxHeartbeats 1000000 in
theorem vccovers_in (w : World) (q : Option Addr) (v b : Nat) (M O : List Dt) (h : VecAt w q O) (ho : VecIs w v b M) :
    Calls Try.prog 35 #[.pointer q, .pointer (some ⟨v, 0, none⟩)] w fun e w' => e = .returned (.bool (rcov O M)) ∧ Below w.heap.size w w' := by
  have CA := Lib.hid (vcactors_any w _ M ho.at_)
  have CG := Lib.hid (fun (a : Ac) (ok : acOk a) (W : World) hW => vcget_any a ok W q O hW)
  have HV := Lib.hid ho
  have HQ := Lib.hid h
  have hn := ho.2.2.len
  generalize hlen' : M.length = n at *
  have HL := Lib.hid hlen'
  generalize hN : w.heap.size = N at *
  clear hlen' h ho
  unfold acV at CG
  go_enter Try.func35, Try.ntmps35
  go_wp2_with fail
  refine CA.out.mono ?_; rintro e w1 ⟨A, c, he, hc1, hc2, hA, hblA, hb1⟩
  rw [HL.out] at he hc1
  subst he
  have HA := Lib.hid hA
  have B1 := Lib.hid (hN ▸ hb1 : Below N w w1)
  have hv1 := HV.out.up hb1
  have HV1 := Lib.hid hv1
  have HQ1 := Lib.hid (HQ.out.up hb1)
  have hlv := hv1.ltv
  have hlb := hv1.ltb
  generalize hN1 : w1.heap.size = N1 at *
  have R0 := Lib.hid (Below.refl N1 w1)
  have hNN := B1.out.size
  clear hA hc2 hblA hb1 CA hv1 HV HQ
  go_wp2_with fail
  go_loopw [10] (fun i wr => ∃ (j : Nat), j ≤ n ∧ i = .int .i64 j ∧ rcov O (M.take j) = true ∧ Below N1 w1 wr) (fun i _ => n - (intOf i).toNat)
  case atStart => exact ⟨0, by omega, rfl, rfl, R0.out⟩
  case round =>
    obtain ⟨j, hj, rfl, hcv, hb⟩ := hrel
    have HO := Lib.hid (And.intro hb hcv)
    clear hb R0 hcv
    by_cases hlt : j < n
    · obtain ⟨x, hx⟩ : ∃ x, M[j]? = some x := ⟨M[j]'(by have := HL.out; omega), List.getElem?_eq_getElem _⟩
      have hxa : (M.map (·.1))[j]? = some x.1 := by rw [List.getElem?_map, hx]; rfl
      obtain ⟨b0, o0, hAe, hb0, c0, c1⟩ := (HA.out.below HO.out.1).at_ hxa
      have hgm : mget M x.1 = x.2 := mget_mem HV1.out.2.2.1.nodup (List.mem_of_getElem? hx)
      have hok : acOk x.1 := acOk_right (n := x.2) (HV1.out.2.2.2 x (List.mem_of_getElem? hx))
      have hNl : N1 ≤ wr.heap.size := by have := HO.out.1.size; omega
      have htk : rcov O (M.take (j + 1)) = decide (x.2 ≤ mget O x.1) := by
        rw [List.take_add_one, hx]
        have h1 := HO.out.2
        unfold rcov at h1 ⊢
        rw [List.all_append, h1]
        simp
      have hno : x.2 ≤ mget O x.1 ∨ rcov O M = false := by
        by_cases hle : x.2 ≤ mget O x.1
        · exact .inl hle
        · refine .inr ?_
          unfold rcov
          rw [List.all_eq_false]
          exact ⟨x, List.mem_of_getElem? hx, by simpa using hle⟩
      obtain ⟨⟨d, i⟩, s⟩ := x
      simp only at c0 c1 hgm hok htk hno
      have HH := Lib.hid (And.intro (HO.out.1.alloc hNl (.cells #[.int .i64 d, .int .i64 i] 25)) (Whole.new wr 25 #[.int .i64 d, .int .i64 i]))
      have CY := Lib.hid (fun W hW => CG.out (d, i) hok W hW)
      have hqd : decide (mget O (d, i) < s) = !decide (s ≤ mget O (d, i)) := by
        rw [Bool.eq_iff_iff]
        simp only [decide_eq_true_eq, Bool.not_eq_true', decide_eq_false_iff_not]
        omega
      generalize mget O (d, i) = qo at *
      have HT1 := Lib.hid htk
      have HT2 := Lib.hid hno
      clear hx hxa htk hno
      subst hAe
      go_wp2_with fail
      obtain ⟨hb4, hW4⟩ := HH.out
      generalize hP : wr.heap.size = P at *
      generalize (wr.alloc (.cells #[.int .i64 d, .int .i64 i] 25)) = W4 at *
      have HW := Lib.hid (And.intro hW4 (And.intro (HV1.out.below hb4 hlv hlb) hb4))
      have HQ4 := Lib.hid (HQ1.out.up (by rw [hN1]; exact hb4.drew))
      have hz4 : N1 ≤ W4.heap.size := by have := hb4.size; omega
      have hP4 : P < W4.heap.size := hW4.lt
      clear hb4 hW4 HH HA
      refine wp_region_held_drew (S := (fun W => W.cell? ⟨P, 0, none⟩ = some (.int .i64 d) ∧ W.cell? ⟨P, 1, none⟩ = some (.int .i64 i) ∧ W.cell? ⟨v, 0, none⟩ = some (.map (some b)) ∧ (Instr.lookup 114 (.map (some b)) (.agg #[.int .i64 d, .int .i64 i]) false).run Try.prog W = .ok (.int .i64 s) W)) (by kernel_rfl) ?_ (fun hHeld => ?_)
      · (try dsimp only); exact LkS.mk_ HW.out.1.drew HW.out.2.1.drew hok hgm
      refine wpAnyH_take (i := 0) (v := ?_) rfl (by kernel_rfl) (by kernel_rfl) (by kernel_rfl) (fun _ _ _ h => h) (Or.inl ⟨by rfl, ?_⟩) (by assumption) ?_
      rotate_left
      · (intro w hSw; (try dsimp only at hSw); go_simp); try with_reducible rfl
      try simp only [Act.put, List.getElem_toArray, List.getElem_cons_zero, List.setIfInBounds_toArray, List.set_cons_zero, List.set_cons_succ]
      refine wpAnyH_take (i := 1) (v := ?_) rfl (by kernel_rfl) (by kernel_rfl) (by kernel_rfl) (fun _ _ _ h => h) (Or.inl ⟨by rfl, ?_⟩) (by assumption) ?_
      rotate_left
      · (intro w hSw; (try dsimp only at hSw); go_simp); try with_reducible rfl
      try simp only [Act.put, List.getElem_toArray, List.getElem_cons_zero, List.getElem_cons_succ, List.setIfInBounds_toArray, List.set_cons_zero, List.set_cons_succ]
      refine wpAnyH_take (i := 3) (v := ?_) rfl (by kernel_rfl) (by kernel_rfl) (by kernel_rfl) (fun _ _ _ h => h) (Or.inl ⟨by rfl, ?_⟩) (by assumption) ?_
      rotate_left
      · (intro w hSw; (try dsimp only at hSw); go_simp); try with_reducible rfl
      try simp only [Act.put, List.getElem_toArray, List.getElem_cons_zero, List.getElem_cons_succ, List.setIfInBounds_toArray, List.set_cons_zero, List.set_cons_succ]
      refine wpAnyH_take (i := 4) (v := ?_) rfl (by kernel_rfl) (by kernel_rfl) (by kernel_rfl) (fun _ _ _ h => h) (Or.inl ⟨by rfl, ?_⟩) (by assumption) ?_
      rotate_left
      · (intro w hSw; (try dsimp only at hSw); go_simp); try with_reducible rfl
      try simp only [Act.put, List.getElem_toArray, List.getElem_cons_zero, List.getElem_cons_succ, List.setIfInBounds_toArray, List.set_cons_zero, List.set_cons_succ]
      refine wpAnyH_take (i := 5) (v := ?_) rfl (by kernel_rfl) (by kernel_rfl) (by kernel_rfl) (fun _ _ _ h => h) (Or.inl ⟨by rfl, ?_⟩) (by assumption) ?_
      rotate_left
      · (intro w hSw; (try dsimp only at hSw); go_simp); try with_reducible rfl
      try simp only [Act.put, List.getElem_toArray, List.getElem_cons_zero, List.getElem_cons_succ, List.setIfInBounds_toArray, List.set_cons_zero, List.set_cons_succ]
      refine wpAnyH_take (i := 6) (v := ?_) rfl (by kernel_rfl) (by kernel_rfl) (by kernel_rfl) (fun _ _ _ h => h) (Or.inl ⟨by rfl, ?_⟩) (by assumption) ?_
      rotate_left
      · (intro w hSw; (try dsimp only at hSw); go_simp); try with_reducible rfl
      try simp only [Act.put, List.getElem_toArray, List.getElem_cons_zero, List.getElem_cons_succ, List.setIfInBounds_toArray, List.set_cons_zero, List.set_cons_succ]
      refine wpAnyH_take (i := 7) (v := ?_) rfl (by kernel_rfl) (by kernel_rfl) (by kernel_rfl) (fun _ _ _ h => h) (Or.inl ⟨by rfl, ?_⟩) (by assumption) ?_
      rotate_left
      · (intro w hSw; (try dsimp only at hSw); go_simp); try with_reducible rfl
      try simp only [Act.put, List.getElem_toArray, List.getElem_cons_zero, List.getElem_cons_succ, List.setIfInBounds_toArray, List.set_cons_zero, List.set_cons_succ]
      refine wpAnyH_take (i := 8) (v := ?_) rfl (by kernel_rfl) (by kernel_rfl) (by kernel_rfl) (fun _ _ _ h => h) (Or.inl ⟨by rfl, ?_⟩) (by assumption) ?_
      rotate_left
      · (intro w hSw; (try dsimp only at hSw); go_simp); try with_reducible rfl
      try simp only [Act.put, List.getElem_toArray, List.getElem_cons_zero, List.getElem_cons_succ, List.setIfInBounds_toArray, List.set_cons_zero, List.set_cons_succ]
      refine wpAnyH_ready (rs := [2]) (by kernel_rfl) (by simp) ?_
      refine AllReadyH.cons rfl (fun K hK => ?_) AllReadyH.nil
      go_simp
      refine (CY.out _ HQ4.out).mono ?_; rintro e w5 ⟨rfl, b5⟩
      go_wp2_with fail
      refine hK.out _ _ ?_ (fun hHeld => ?_)
      · (try dsimp only); exact LkS.mk_ (Whole.below HW.out.1.drew b5 hP4) (VecIs.up HW.out.2.1.drew b5) hok hgm
      clear hK K
      try simp only [Act.put, List.getElem_toArray, List.getElem_cons_zero, List.getElem_cons_succ, List.setIfInBounds_toArray, List.set_cons_zero, List.set_cons_succ]
      have HF := Lib.hid (HW.out.2.2.drew.trans (below_of_le b5 (by show N1 ≤ W4.heap.size; omega)))
      clear b5
      by_cases hle : s ≤ qo
      · have hd : decide (qo < s) = false := by rw [hqd]; simpa using hle
        have h1 := Lib.hid (show rcov O (M.take (j + 1)) = true by rw [HT1.out]; exact decide_eq_true hle)
        clear hqd hle
        refine wpAnyH_take (i := 9) (v := ?_) rfl (by kernel_rfl) (by kernel_rfl) (by kernel_rfl) (fun _ _ _ h => h) (Or.inl ⟨by rfl, ?_⟩) (by assumption) ?_
        rotate_left
        · (intro w hSw; (try dsimp only at hSw); go_simp); try with_reducible rfl
        try simp only [Act.put, List.getElem_toArray, List.getElem_cons_zero, List.getElem_cons_succ, List.setIfInBounds_toArray, List.set_cons_zero, List.set_cons_succ]
        refine wpAnyH_done (by kernel_rfl) ?_ _
        go_wp2
        go_roundw
        case rel => exact ⟨j + 1, by omega, by go_num, h1.out, HF.out⟩
        case measure => simp [intOf]; omega
      · have hd : decide (qo < s) = true := by rw [hqd]; simpa using hle
        have h1 := Lib.hid (show rcov O M = false by
          rcases HT2.out with h | h
          · exact absurd h hle
          · exact h)
        clear hqd hle
        refine wpAnyH_take (i := 9) (v := ?_) rfl (by kernel_rfl) (by kernel_rfl) (by kernel_rfl) (fun _ _ _ h => h) (Or.inl ⟨by rfl, ?_⟩) (by assumption) ?_
        rotate_left
        · (intro w hSw; (try dsimp only at hSw); go_simp); try with_reducible rfl
        try simp only [Act.put, List.getElem_toArray, List.getElem_cons_zero, List.getElem_cons_succ, List.setIfInBounds_toArray, List.set_cons_zero, List.set_cons_succ]
        refine wpAnyH_done (by kernel_rfl) ?_ _
        go_wp2
        go_ret
        exact ⟨ret_bool h1.out.symm, B1.out.trans (below_of_le HF.out (by omega))⟩
    · have hj' : j = n := by omega
      subst hj'
      have ht := Lib.hid (show rcov O M = true by
        have := HO.out.2
        rwa [List.take_of_length_le (by have := HL.out; omega)] at this)
      clear HA
      go_wp2
      go_ret
      exact ⟨ret_bool ht.out.symm, B1.out.trans (below_of_le HO.out.1 (by omega))⟩
theorem vccovers_any (w : World) (p q : Option Addr) (M O : List Dt) (h : VecAt w p M) (ho : VecAt w q O) :
    Calls Try.prog 35 #[.pointer p, .pointer q] w fun e w' => e = .returned (.bool (rcov M O)) ∧ Below w.heap.size w w' := by
  rcases ho with ⟨rfl, rfl⟩ | ⟨v, b, rfl, ho⟩
  · have CA := Lib.hid (vcactors_any w _ [] (VecAt.nil w))
    have hr := Lib.hid (show rcov M [] = true from rfl)
    generalize hN : w.heap.size = N at *
    go_enter Try.func35, Try.ntmps35
    go_wp2_with fail
    refine CA.out.mono ?_; rintro e w1 ⟨A, c, rfl, hc1, hc2, hA, hblA, hb1⟩
    have HE := Lib.hid (hN ▸ hb1 : Below N w w1)
    clear CA hA hblA hb1
    go_wp2_with fail
    refine wp_loop_rounds 1 ?_
    rw [rounds_succ]
    go_wp2
    go_ret
    exact ⟨ret_bool hr.out.symm, HE.out⟩
  · exact vccovers_in w p v b O M h ho
/-- The sum of the numbers. -/
def msum (L : List Dt) : Int := (L.map (·.2)).foldl (· + ·) 0
theorem msum_snoc (L : List Dt) (x : Dt) : msum (L ++ [x]) = msum L + x.2 := by simp [msum]
theorem msum_le {M : List Dt} (h : Vw M) (k : Nat) : 0 ≤ msum (M.take k) ∧ msum (M.take k) ≤ 4294967296 * k := by
  induction k with
  | zero => simp [msum]
  | succ k ih =>
    cases hx : M[k]? with
    | none =>
      rw [List.take_add_one, hx]
      simp only [Option.toList_none, List.append_nil]
      omega
    | some x =>
      rw [List.take_add_one, hx]
      simp only [Option.toList_some]
      rw [msum_snoc]
      have := (rightD_iff x).1 (h.2 x (List.mem_of_getElem? hx))
      omega
set_option maxHeartbeats 1000000 in
theorem vcsum_in (w : World) (v b : Nat) (M : List Dt) (h : VecIs w v b M) : Calls Try.prog 40 #[.pointer (some ⟨v, 0, none⟩)] w fun e w' => e = .returned (.int .i64 (msum M)) ∧ Below w.heap.size w w' := by
  have CA := Lib.hid (vcactors_any w _ M h.at_)
  have HV := Lib.hid h
  have hms := Lib.hid (msum_le h.2.2)
  have hn := h.2.2.len
  generalize hlen' : M.length = n at *
  have HL := Lib.hid hlen'
  generalize hN : w.heap.size = N at *
  clear hlen' h
  go_enter Try.func40, Try.ntmps40
  go_wp2_with fail
  refine CA.out.mono ?_; rintro e w1 ⟨A, c, he, hc1, hc2, hA, hblA, hb1⟩
  rw [HL.out] at he hc1
  subst he
  have HA := Lib.hid hA
  have B1 := Lib.hid (hN ▸ hb1 : Below N w w1)
  have hv1 := HV.out.up hb1
  have HV1 := Lib.hid hv1
  have hlv := hv1.ltv
  have hlb := hv1.ltb
  generalize hN1 : w1.heap.size = N1 at *
  have R0 := Lib.hid (Below.refl N1 w1)
  have hNN := B1.out.size
  clear hA hc2 hblA hb1 CA hv1 HV
  go_wp2_with fail
  go_loopw [3, 9] (fun y i wr => ∃ (j : Nat), j ≤ n ∧ i = .int .i64 j ∧ y = .int .i64 (msum (M.take j)) ∧ Below N1 w1 wr) (fun _ i _ => n - (intOf i).toNat)
  case atStart => exact ⟨0, by omega, rfl, rfl, R0.out⟩
  case round =>
    obtain ⟨j, hj, rfl, rfl, hb⟩ := hrel
    have HO := Lib.hid hb
    clear hb R0
    by_cases hlt : j < n
    · obtain ⟨x, hx⟩ : ∃ x, M[j]? = some x := ⟨M[j]'(by have := HL.out; omega), List.getElem?_eq_getElem _⟩
      have hxa : (M.map (·.1))[j]? = some x.1 := by rw [List.getElem?_map, hx]; rfl
      obtain ⟨b0, o0, hAe, hb0, c0, c1⟩ := (HA.out.below HO.out).at_ hxa
      have hgm : mget M x.1 = x.2 := mget_mem HV1.out.2.2.1.nodup (List.mem_of_getElem? hx)
      have hok : acOk x.1 := acOk_right (n := x.2) (HV1.out.2.2.2 x (List.mem_of_getElem? hx))
      have hNl : N1 ≤ wr.heap.size := by have := HO.out.size; omega
      have hrx := (rightD_iff x).1 (HV1.out.2.2.2 x (List.mem_of_getElem? hx))
      have hm0 := hms.out j
      have htk := Lib.hid (show msum (M.take (j + 1)) = msum (M.take j) + x.2 by rw [List.take_add_one, hx]; exact msum_snoc _ _)
      obtain ⟨⟨d, i⟩, s⟩ := x
      simp only at c0 c1 hgm hok hrx htk
      generalize msum (M.take j) = t at *
      have hw1 : IntKind.i64.wrap (t + s) = t + s := by rw [IntKind.wrap_i64]; omega
      have HH := Lib.hid (And.intro (HO.out.alloc hNl (.cells #[.int .i64 d, .int .i64 i] 25)) (Whole.new wr 25 #[.int .i64 d, .int .i64 i]))
      clear hx hxa hm0 hrx
      subst hAe
      go_wp2_with fail
      obtain ⟨hb4, hW4⟩ := HH.out
      generalize hP : wr.heap.size = P at *
      generalize (wr.alloc (.cells #[.int .i64 d, .int .i64 i] 25)) = W4 at *
      have HW := Lib.hid (And.intro hW4 (And.intro (HV1.out.below hb4 hlv hlb) hb4))
      clear hb4 hW4 HH HA
      refine wp_region_held_drew (S := (fun W => W.cell? ⟨P, 0, none⟩ = some (.int .i64 d) ∧ W.cell? ⟨P, 1, none⟩ = some (.int .i64 i) ∧ W.cell? ⟨v, 0, none⟩ = some (.map (some b)) ∧ (Instr.lookup 114 (.map (some b)) (.agg #[.int .i64 d, .int .i64 i]) false).run Try.prog W = .ok (.int .i64 s) W)) (by kernel_rfl) ?_ (fun hHeld => ?_)
      · (try dsimp only); exact LkS.mk_ HW.out.1.drew HW.out.2.1.drew hok hgm
      refine wpAnyH_take (i := 0) (v := ?_) rfl (by kernel_rfl) (by kernel_rfl) (by kernel_rfl) (fun _ _ _ h => h) (Or.inl ⟨by rfl, ?_⟩) (by assumption) ?_
      rotate_left
      · (intro w hSw; (try dsimp only at hSw); go_simp); try with_reducible rfl
      try simp only [Act.put, List.getElem_toArray, List.getElem_cons_zero, List.setIfInBounds_toArray, List.set_cons_zero, List.set_cons_succ]
      refine wpAnyH_take (i := 1) (v := ?_) rfl (by kernel_rfl) (by kernel_rfl) (by kernel_rfl) (fun _ _ _ h => h) (Or.inl ⟨by rfl, ?_⟩) (by assumption) ?_
      rotate_left
      · (intro w hSw; (try dsimp only at hSw); go_simp); try with_reducible rfl
      try simp only [Act.put, List.getElem_toArray, List.getElem_cons_zero, List.getElem_cons_succ, List.setIfInBounds_toArray, List.set_cons_zero, List.set_cons_succ]
      refine wpAnyH_take (i := 2) (v := ?_) rfl (by kernel_rfl) (by kernel_rfl) (by kernel_rfl) (fun _ _ _ h => h) (Or.inl ⟨by rfl, ?_⟩) (by assumption) ?_
      rotate_left
      · (intro w hSw; (try dsimp only at hSw); go_simp); try with_reducible rfl
      try simp only [Act.put, List.getElem_toArray, List.getElem_cons_zero, List.getElem_cons_succ, List.setIfInBounds_toArray, List.set_cons_zero, List.set_cons_succ]
      refine wpAnyH_take (i := 3) (v := ?_) rfl (by kernel_rfl) (by kernel_rfl) (by kernel_rfl) (fun _ _ _ h => h) (Or.inl ⟨by rfl, ?_⟩) (by assumption) ?_
      rotate_left
      · (intro w hSw; (try dsimp only at hSw); go_simp); try with_reducible rfl
      try simp only [Act.put, List.getElem_toArray, List.getElem_cons_zero, List.getElem_cons_succ, List.setIfInBounds_toArray, List.set_cons_zero, List.set_cons_succ]
      refine wpAnyH_take (i := 4) (v := ?_) rfl (by kernel_rfl) (by kernel_rfl) (by kernel_rfl) (fun _ _ _ h => h) (Or.inl ⟨by rfl, ?_⟩) (by assumption) ?_
      rotate_left
      · (intro w hSw; (try dsimp only at hSw); go_simp); try with_reducible rfl
      try simp only [Act.put, List.getElem_toArray, List.getElem_cons_zero, List.getElem_cons_succ, List.setIfInBounds_toArray, List.set_cons_zero, List.set_cons_succ]
      refine wpAnyH_take (i := 5) (v := ?_) rfl (by kernel_rfl) (by kernel_rfl) (by kernel_rfl) (fun _ _ _ h => h) (Or.inl ⟨by rfl, ?_⟩) (by assumption) ?_
      rotate_left
      · (intro w hSw; (try dsimp only at hSw); go_simp); try with_reducible rfl
      try simp only [Act.put, List.getElem_toArray, List.getElem_cons_zero, List.getElem_cons_succ, List.setIfInBounds_toArray, List.set_cons_zero, List.set_cons_succ]
      refine wpAnyH_take (i := 6) (v := ?_) rfl (by kernel_rfl) (by kernel_rfl) (by kernel_rfl) (fun _ _ _ h => h) (Or.inl ⟨by rfl, ?_⟩) (by assumption) ?_
      rotate_left
      · (intro w hSw; (try dsimp only at hSw); go_simp); try with_reducible rfl
      try simp only [Act.put, List.getElem_toArray, List.getElem_cons_zero, List.getElem_cons_succ, List.setIfInBounds_toArray, List.set_cons_zero, List.set_cons_succ]
      refine wpAnyH_take (i := 7) (v := ?_) rfl (by kernel_rfl) (by kernel_rfl) (by kernel_rfl) (fun _ _ _ h => h) (Or.inl ⟨by rfl, ?_⟩) (by assumption) ?_
      rotate_left
      · (intro w hSw; (try dsimp only at hSw); go_simp); try with_reducible rfl
      try simp only [Act.put, List.getElem_toArray, List.getElem_cons_zero, List.getElem_cons_succ, List.setIfInBounds_toArray, List.set_cons_zero, List.set_cons_succ]
      refine wpAnyH_take (i := 8) (v := ?_) rfl (by kernel_rfl) (by kernel_rfl) (by kernel_rfl) (fun _ _ _ h => h) (Or.inl ⟨by rfl, ?_⟩) (by assumption) ?_
      rotate_left
      · (intro w hSw; (try dsimp only at hSw); go_simp); try with_reducible rfl
      try simp only [Act.put, List.getElem_toArray, List.getElem_cons_zero, List.getElem_cons_succ, List.setIfInBounds_toArray, List.set_cons_zero, List.set_cons_succ]
      refine wpAnyH_done (by kernel_rfl) ?_ _
      go_wp2
      go_roundw
      case rel => exact ⟨j + 1, by omega, by go_num, by rw [htk.out], HW.out.2.2.drew⟩
      case measure => simp [intOf]; omega
    · have hj' : j = n := by omega
      subst hj'
      have ht := Lib.hid (show M.take j = M by rw [List.take_of_length_le (by have := HL.out; omega)])
      clear HA
      go_wp2
      go_ret
      exact ⟨ret_int (by rw [ht.out]), B1.out.trans (below_of_le HO.out (by omega))⟩
theorem vcsum_any (w : World) (p : Option Addr) (M : List Dt) (h : VecAt w p M) : Calls Try.prog 40 #[.pointer p] w fun e w' => e = .returned (.int .i64 (msum M)) ∧ Below w.heap.size w w' := by
  rcases h with ⟨rfl, rfl⟩ | ⟨v, b, rfl, h⟩
  · have CA := Lib.hid (vcactors_any w _ [] (VecAt.nil w))
    generalize hN : w.heap.size = N at *
    go_enter Try.func40, Try.ntmps40
    go_wp2_with fail
    refine CA.out.mono ?_; rintro e w1 ⟨A, c, rfl, hc1, hc2, hA, hblA, hb1⟩
    have HE := Lib.hid (hN ▸ hb1 : Below N w w1)
    clear CA hA hblA hb1
    go_wp2_with fail
    refine wp_loop_rounds 1 ?_
    rw [rounds_succ]
    go_wp2
    go_ret
    exact ⟨rfl, HE.out⟩
  · exact vcsum_in w v b M h
end Go.Proofs.Ytailbppddnegoaa
