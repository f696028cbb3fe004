/- Layer 17 (vector): Join, Copy. -/
import Derived.Test.YtailbppddnegoaaY5
namespace Go.Proofs.Ytailbppddnegoaa
open Go.RowKit
set_option linter.unusedVariables false
set_option maxRecDepth 100000
attribute [local go_sem ↓] Go.wp_at_zero Go.wp_at_succ

/-- What joining leaves: the map's block alone has changed. -/
def JoinEnd (w : World) (v b : Nat) (M : List Dt) (e : Ending) (w' : World) : Prop := e = .returned (.tuple #[]) ∧ VecIs w' v b M ∧ Ch (fun k => k = b) w w'
theorem Acs.ch {S : Nat → Prop} {w w' : World} {B : Nat} {A : Option Addr} {L : List Ac} (r : Acs w B A L) (hB : B ≤ w.heap.size) (h : Ch S w w') (hS : ∀ k, k < B → bl A = some k → ¬ S k) : Acs w' B A L := Rd.ch r hB h hS
set_option maxHeartbeats 1000000 in
theorem vcjoin_in (w : World) (v b u b' : Nat) (M O : List Dt) (h : VecIs w v b M) (ho : VecIs w u b' O) (hne : b' ≠ b) :
    Calls Try.prog 36 #[.pointer (some ⟨v, 0, none⟩), .pointer (some ⟨u, 0, none⟩)] w (JoinEnd w v b (rjoin M O)) := by
  have CA := Lib.hid (vcactors_any w _ O ho.at_)
  have CR := Lib.hid (fun (a : Ac) (n : Int) (W : World) (M : List Dt) (hW : VecIs W v b M) => vcraise_any a n W v b M hW)
  have hub : u ≠ b := by
    rintro rfl
    obtain ⟨es, clock, hb, _⟩ := h.2.1.1
    have h1 := ho.1
    unfold Whole at h1
    rw [h1] at hb
    cases hb
  have HV := Lib.hid (And.intro h ho)
  have hn := ho.2.2.len
  generalize hlen' : O.length = n at *
  have HL := Lib.hid hlen'
  generalize hN : w.heap.size = N at *
  clear hlen' h ho
  unfold acV at CR
  go_enter Try.func36, Try.ntmps36
  go_wp2_with fail
  refine CA.out.mono ?_; rintro e w1 ⟨A, c, he, hc1, hc2, hA, hblA, hb1⟩
  rw [HL.out] at he hc1
  subst he
  have HA := Lib.hid (And.intro hA hblA)
  have B1 := Lib.hid (hN ▸ hb1 : Below N w w1)
  have HV1 := Lib.hid (And.intro (HV.out.1.up hb1) (HV.out.2.up hb1))
  have hlb := HV.out.1.ltb
  generalize hN1 : w1.heap.size = N1 at *
  have R0 := Lib.hid (And.intro (show VecIs w1 v b (rjoin M (O.take 0)) from HV1.out.1) (Ch.refl (fun k => k = b) w1))
  have hNN := B1.out.size
  clear hA hc2 hblA hb1 CA HV
  go_wp2_with fail
  go_loopw [9] (fun i wr => ∃ (j : Nat), j ≤ n ∧ i = .int .i64 j ∧ VecIs wr v b (rjoin M (O.take j)) ∧ Ch (fun k => k = b) w1 wr) (fun i _ => n - (intOf i).toNat)
  case atStart => exact ⟨0, by omega, rfl, R0.out⟩
  case round =>
    obtain ⟨j, hj, rfl, hO⟩ := hrel
    have HO := Lib.hid hO
    clear hO R0
    by_cases hlt : j < n
    · obtain ⟨x, hx⟩ : ∃ x, O[j]? = some x := ⟨O[j]'(by have := HL.out; omega), List.getElem?_eq_getElem _⟩
      have hxa : (O.map (·.1))[j]? = some x.1 := by rw [List.getElem?_map, hx]; rfl
      obtain ⟨b0, o0, hAe, hb0, c0, c1⟩ := (HA.out.1.ch (by rw [hN1]; exact Nat.le_refl _) HO.out.2 (fun k _ hk e => by have := HA.out.2 k hk; omega)).at_ hxa
      have hgm : mget O x.1 = x.2 := mget_mem HV1.out.2.2.2.1.nodup (List.mem_of_getElem? hx)
      have hok : acOk x.1 := acOk_right (n := x.2) (HV1.out.2.2.2.2 x (List.mem_of_getElem? hx))
      obtain ⟨⟨d, i⟩, s⟩ := x
      simp only at c0 c1 hgm hok
      have hv := HO.out.1.alloc (.cells #[.int .i64 d, .int .i64 i] 25)
      have hu := (HV1.out.2.ch HO.out.2 hub hne).alloc (.cells #[.int .i64 d, .int .i64 i] 25)
      have hch := HO.out.2.trans (Ch.alloc_ (fun k => k = b) wr (.cells #[.int .i64 d, .int .i64 i] 25)) (fun k _ h => h)
      have hbr : b < wr.heap.size := HO.out.1.ltb
      have HH := Lib.hid (And.intro hv (And.intro hu (And.intro hch (Whole.new wr 25 #[.int .i64 d, .int .i64 i]))))
      have htk := Lib.hid (show rjoin M (O.take (j + 1)) = rraise (rjoin M (O.take j)) (d, i) s by rw [List.take_add_one, hx]; exact rjoin_snoc _ _ _)
      clear hx hxa hv hu hch
      have cr := fun W hW => CR.out (d, i) s W (rjoin M (O.take j)) hW
      have CX := Lib.hid cr
      clear cr
      subst hAe
      go_wp2_with fail
      obtain ⟨hv4, hu4, hch4, hW4⟩ := HH.out
      generalize hP : wr.heap.size = P at *
      generalize (wr.alloc (.cells #[.int .i64 d, .int .i64 i] 25)) = W4 at *
      have HW := Lib.hid (And.intro hv4 (And.intro hu4 (And.intro hch4 hW4)))
      have hPb : P ≠ b := by omega
      clear hv4 hu4 hch4 hW4 HH HA
      refine wp_region_held_drew (S := (fun W => W.cell? ⟨P, 0, none⟩ = some (.int .i64 d) ∧ W.cell? ⟨P, 1, none⟩ = some (.int .i64 i) ∧ W.cell? ⟨u, 0, none⟩ = some (.map (some b')) ∧ (Instr.lookup 114 (.map (some b')) (.agg #[.int .i64 d, .int .i64 i]) false).run Try.prog W = .ok (.int .i64 s) W)) (by kernel_rfl) ?_ (fun hHeld => ?_)
      · (try dsimp only); exact LkS.mk_ HW.out.2.2.2.drew HW.out.2.1.drew hok hgm
      refine wpAnyH_take (i := 0) (v := ?_) rfl (by kernel_rfl) (by kernel_rfl) (by kernel_rfl) (fun _ _ _ h => h) (Or.inl ⟨by rfl, ?_⟩) (by assumption) ?_
      rotate_left
      · (intro w hSw; (try dsimp only at hSw); go_simp); try with_reducible rfl
      try simp only [Act.put, List.getElem_toArray, List.getElem_cons_zero, List.setIfInBounds_toArray, List.set_cons_zero, List.set_cons_succ]
      refine wpAnyH_take (i := 1) (v := ?_) rfl (by kernel_rfl) (by kernel_rfl) (by kernel_rfl) (fun _ _ _ h => h) (Or.inl ⟨by rfl, ?_⟩) (by assumption) ?_
      rotate_left
      · (intro w hSw; (try dsimp only at hSw); go_simp); try with_reducible rfl
      try simp only [Act.put, List.getElem_toArray, List.getElem_cons_zero, List.getElem_cons_succ, List.setIfInBounds_toArray, List.set_cons_zero, List.set_cons_succ]
      refine wpAnyH_take (i := 2) (v := ?_) rfl (by kernel_rfl) (by kernel_rfl) (by kernel_rfl) (fun _ _ _ h => h) (Or.inl ⟨by rfl, ?_⟩) (by assumption) ?_
      rotate_left
      · (intro w hSw; (try dsimp only at hSw); go_simp); try with_reducible rfl
      try simp only [Act.put, List.getElem_toArray, List.getElem_cons_zero, List.getElem_cons_succ, List.setIfInBounds_toArray, List.set_cons_zero, List.set_cons_succ]
      refine wpAnyH_take (i := 3) (v := ?_) rfl (by kernel_rfl) (by kernel_rfl) (by kernel_rfl) (fun _ _ _ h => h) (Or.inl ⟨by rfl, ?_⟩) (by assumption) ?_
      rotate_left
      · (intro w hSw; (try dsimp only at hSw); go_simp); try with_reducible rfl
      try simp only [Act.put, List.getElem_toArray, List.getElem_cons_zero, List.getElem_cons_succ, List.setIfInBounds_toArray, List.set_cons_zero, List.set_cons_succ]
      refine wpAnyH_take (i := 4) (v := ?_) rfl (by kernel_rfl) (by kernel_rfl) (by kernel_rfl) (fun _ _ _ h => h) (Or.inl ⟨by rfl, ?_⟩) (by assumption) ?_
      rotate_left
      · (intro w hSw; (try dsimp only at hSw); go_simp); try with_reducible rfl
      try simp only [Act.put, List.getElem_toArray, List.getElem_cons_zero, List.getElem_cons_succ, List.setIfInBounds_toArray, List.set_cons_zero, List.set_cons_succ]
      refine wpAnyH_take (i := 5) (v := ?_) rfl (by kernel_rfl) (by kernel_rfl) (by kernel_rfl) (fun _ _ _ h => h) (Or.inl ⟨by rfl, ?_⟩) (by assumption) ?_
      rotate_left
      · (intro w hSw; (try dsimp only at hSw); go_simp); try with_reducible rfl
      try simp only [Act.put, List.getElem_toArray, List.getElem_cons_zero, List.getElem_cons_succ, List.setIfInBounds_toArray, List.set_cons_zero, List.set_cons_succ]
      refine wpAnyH_take (i := 6) (v := ?_) rfl (by kernel_rfl) (by kernel_rfl) (by kernel_rfl) (fun _ _ _ h => h) (Or.inl ⟨by rfl, ?_⟩) (by assumption) ?_
      rotate_left
      · (intro w hSw; (try dsimp only at hSw); go_simp); try with_reducible rfl
      try simp only [Act.put, List.getElem_toArray, List.getElem_cons_zero, List.getElem_cons_succ, List.setIfInBounds_toArray, List.set_cons_zero, List.set_cons_succ]
      refine wpAnyH_take (i := 7) (v := ?_) rfl (by kernel_rfl) (by kernel_rfl) (by kernel_rfl) (fun _ _ _ h => h) (Or.inl ⟨by rfl, ?_⟩) (by assumption) ?_
      rotate_left
      · (intro w hSw; (try dsimp only at hSw); go_simp); try with_reducible rfl
      try simp only [Act.put, List.getElem_toArray, List.getElem_cons_zero, List.getElem_cons_succ, List.setIfInBounds_toArray, List.set_cons_zero, List.set_cons_succ]
      refine wpAnyH_ready (rs := [8]) (by kernel_rfl) (by simp) ?_
      refine AllReadyH.cons rfl (fun K hK => ?_) AllReadyH.nil
      go_simp
      refine (CX.out _ HW.out.1.drew).mono ?_; rintro e w5 ⟨rfl, hv5, hc5⟩
      go_wp2_with fail
      refine hK.out _ _ ?_ (fun hHeld => ?_)
      · (try dsimp only); exact LkS.mk_ (Whole.ch HW.out.2.2.2.drew hc5 hPb) (VecIs.ch HW.out.2.1.drew hc5 hub hne) hok hgm
      clear hK K
      try simp only [Act.put, List.getElem_toArray, List.getElem_cons_zero, List.getElem_cons_succ, List.setIfInBounds_toArray, List.set_cons_zero, List.set_cons_succ]
      have HF := Lib.hid (And.intro hv5 ((HW.out.2.2.1.drew).trans hc5 (fun k _ h => h)))
      clear hv5 hc5
      refine wpAnyH_done (by kernel_rfl) ?_ _
      go_wp2
      go_roundw
      case rel => exact ⟨j + 1, by omega, by go_num, by rw [htk.out]; exact HF.out.1, HF.out.2⟩
      case measure => simp [intOf]; omega
    · have hj' : j = n := by omega
      subst hj'
      have ht := Lib.hid (show O.take j = O by rw [List.take_of_length_le (by have := HL.out; omega)])
      clear HA
      go_wp2
      go_end0
      have hf := HO.out
      rw [ht.out] at hf
      exact ⟨rfl, hf.1, (below_ch (by rw [hN]; exact B1.out)).trans hf.2 (fun k _ h => h)⟩
theorem vcjoin_onil (w : World) (p : Option Addr) :
    Calls Try.prog 36 #[.pointer p, .pointer none] w fun e w' => e = .returned (.tuple #[]) ∧ Below w.heap.size w w' := by
  have CA := Lib.hid (vcactors_any w _ [] (VecAt.nil w))
  generalize hN : w.heap.size = N at *
  go_enter Try.func36, Try.ntmps36
  go_wp2_with fail
  refine CA.out.mono ?_; rintro e w1 ⟨A, c, rfl, hc1, hc2, hA, hblA, hb1⟩
  have HE := Lib.hid (hN ▸ hb1 : Below N w w1)
  clear CA hA hblA hb1
  go_wp2_with fail
  refine wp_loop_rounds 1 ?_
  rw [rounds_succ]
  go_wp2
  go_end0
  exact ⟨rfl, HE.out⟩
set_option maxHeartbeats 1000000 in
theorem vcjoin_vnil (w : World) (u b' : Nat) (O : List Dt) (ho : VecIs w u b' O) :
    Calls Try.prog 36 #[.pointer none, .pointer (some ⟨u, 0, none⟩)] w fun e w' => e = .returned (.tuple #[]) ∧ Below w.heap.size w w' := by
  have CA := Lib.hid (vcactors_any w _ O ho.at_)
  have CR := Lib.hid (fun (a : Ac) (n : Int) (W : World) => vcraise_nil a n W)
  have HV := Lib.hid ho
  have hn := ho.2.2.len
  generalize hlen' : O.length = n at *
  have HL := Lib.hid hlen'
  generalize hN : w.heap.size = N at *
  clear hlen' ho
  unfold acV at CR
  go_enter Try.func36, Try.ntmps36
  go_wp2_with fail
  refine CA.out.mono ?_; rintro e w1 ⟨A, c, he, hc1, hc2, hA, hblA, hb1⟩
  rw [HL.out] at he hc1
  subst he
  have HA := Lib.hid hA
  have B1 := Lib.hid (hN ▸ hb1 : Below N w w1)
  have HV1 := Lib.hid (HV.out.up hb1)
  have hlv := HV1.out.ltv
  have hlb := HV1.out.ltb
  generalize hN1 : w1.heap.size = N1 at *
  have R0 := Lib.hid (Below.refl N1 w1)
  have hNN := B1.out.size
  clear hA hc2 hblA hb1 CA HV
  go_wp2_with fail
  go_loopw [9] (fun i wr => ∃ (j : Nat), j ≤ n ∧ i = .int .i64 j ∧ Below N1 w1 wr) (fun i _ => n - (intOf i).toNat)
  case atStart => exact ⟨0, by omega, rfl, R0.out⟩
  case round =>
    obtain ⟨j, hj, rfl, hO⟩ := hrel
    have HO := Lib.hid hO
    clear hO R0
    by_cases hlt : j < n
    · obtain ⟨x, hx⟩ : ∃ x, O[j]? = some x := ⟨O[j]'(by have := HL.out; omega), List.getElem?_eq_getElem _⟩
      have hxa : (O.map (·.1))[j]? = some x.1 := by rw [List.getElem?_map, hx]; rfl
      obtain ⟨b0, o0, hAe, hb0, c0, c1⟩ := (HA.out.below HO.out).at_ hxa
      have hgm : mget O x.1 = x.2 := mget_mem HV1.out.2.2.1.nodup (List.mem_of_getElem? hx)
      have hok : acOk x.1 := acOk_right (n := x.2) (HV1.out.2.2.2 x (List.mem_of_getElem? hx))
      have hNl : N1 ≤ wr.heap.size := by have := HO.out.size; omega
      obtain ⟨⟨d, i⟩, s⟩ := x
      simp only at c0 c1 hgm hok
      have HH := Lib.hid (And.intro (HO.out.alloc hNl (.cells #[.int .i64 d, .int .i64 i] 25)) (Whole.new wr 25 #[.int .i64 d, .int .i64 i]))
      have CX := Lib.hid (fun W => CR.out (d, i) s W)
      clear hx hxa
      subst hAe
      go_wp2_with fail
      obtain ⟨hb4, hW4⟩ := HH.out
      generalize hP : wr.heap.size = P at *
      generalize (wr.alloc (.cells #[.int .i64 d, .int .i64 i] 25)) = W4 at *
      have HW := Lib.hid (And.intro hb4 (And.intro (HV1.out.below hb4 hlv hlb) hW4))
      have hN4 : N1 ≤ W4.heap.size := by have := hb4.size; omega
      clear hb4 hW4 HH HA
      refine wp_region_held_drew (S := (fun W => W.cell? ⟨P, 0, none⟩ = some (.int .i64 d) ∧ W.cell? ⟨P, 1, none⟩ = some (.int .i64 i) ∧ W.cell? ⟨u, 0, none⟩ = some (.map (some b')) ∧ (Instr.lookup 114 (.map (some b')) (.agg #[.int .i64 d, .int .i64 i]) false).run Try.prog W = .ok (.int .i64 s) W)) (by kernel_rfl) ?_ (fun hHeld => ?_)
      · (try dsimp only); exact LkS.mk_ HW.out.2.2.drew HW.out.2.1.drew hok hgm
      refine wpAnyH_take (i := 0) (v := ?_) rfl (by kernel_rfl) (by kernel_rfl) (by kernel_rfl) (fun _ _ _ h => h) (Or.inl ⟨by rfl, ?_⟩) (by assumption) ?_
      rotate_left
      · (intro w hSw; (try dsimp only at hSw); go_simp); try with_reducible rfl
      try simp only [Act.put, List.getElem_toArray, List.getElem_cons_zero, List.setIfInBounds_toArray, List.set_cons_zero, List.set_cons_succ]
      refine wpAnyH_take (i := 1) (v := ?_) rfl (by kernel_rfl) (by kernel_rfl) (by kernel_rfl) (fun _ _ _ h => h) (Or.inl ⟨by rfl, ?_⟩) (by assumption) ?_
      rotate_left
      · (intro w hSw; (try dsimp only at hSw); go_simp); try with_reducible rfl
      try simp only [Act.put, List.getElem_toArray, List.getElem_cons_zero, List.getElem_cons_succ, List.setIfInBounds_toArray, List.set_cons_zero, List.set_cons_succ]
      refine wpAnyH_take (i := 2) (v := ?_) rfl (by kernel_rfl) (by kernel_rfl) (by kernel_rfl) (fun _ _ _ h => h) (Or.inl ⟨by rfl, ?_⟩) (by assumption) ?_
      rotate_left
      · (intro w hSw; (try dsimp only at hSw); go_simp); try with_reducible rfl
      try simp only [Act.put, List.getElem_toArray, List.getElem_cons_zero, List.getElem_cons_succ, List.setIfInBounds_toArray, List.set_cons_zero, List.set_cons_succ]
      refine wpAnyH_take (i := 3) (v := ?_) rfl (by kernel_rfl) (by kernel_rfl) (by kernel_rfl) (fun _ _ _ h => h) (Or.inl ⟨by rfl, ?_⟩) (by assumption) ?_
      rotate_left
      · (intro w hSw; (try dsimp only at hSw); go_simp); try with_reducible rfl
      try simp only [Act.put, List.getElem_toArray, List.getElem_cons_zero, List.getElem_cons_succ, List.setIfInBounds_toArray, List.set_cons_zero, List.set_cons_succ]
      refine wpAnyH_take (i := 4) (v := ?_) rfl (by kernel_rfl) (by kernel_rfl) (by kernel_rfl) (fun _ _ _ h => h) (Or.inl ⟨by rfl, ?_⟩) (by assumption) ?_
      rotate_left
      · (intro w hSw; (try dsimp only at hSw); go_simp); try with_reducible rfl
      try simp only [Act.put, List.getElem_toArray, List.getElem_cons_zero, List.getElem_cons_succ, List.setIfInBounds_toArray, List.set_cons_zero, List.set_cons_succ]
      refine wpAnyH_take (i := 5) (v := ?_) rfl (by kernel_rfl) (by kernel_rfl) (by kernel_rfl) (fun _ _ _ h => h) (Or.inl ⟨by rfl, ?_⟩) (by assumption) ?_
      rotate_left
      · (intro w hSw; (try dsimp only at hSw); go_simp); try with_reducible rfl
      try simp only [Act.put, List.getElem_toArray, List.getElem_cons_zero, List.getElem_cons_succ, List.setIfInBounds_toArray, List.set_cons_zero, List.set_cons_succ]
      refine wpAnyH_take (i := 6) (v := ?_) rfl (by kernel_rfl) (by kernel_rfl) (by kernel_rfl) (fun _ _ _ h => h) (Or.inl ⟨by rfl, ?_⟩) (by assumption) ?_
      rotate_left
      · (intro w hSw; (try dsimp only at hSw); go_simp); try with_reducible rfl
      try simp only [Act.put, List.getElem_toArray, List.getElem_cons_zero, List.getElem_cons_succ, List.setIfInBounds_toArray, List.set_cons_zero, List.set_cons_succ]
      refine wpAnyH_take (i := 7) (v := ?_) rfl (by kernel_rfl) (by kernel_rfl) (by kernel_rfl) (fun _ _ _ h => h) (Or.inl ⟨by rfl, ?_⟩) (by assumption) ?_
      rotate_left
      · (intro w hSw; (try dsimp only at hSw); go_simp); try with_reducible rfl
      try simp only [Act.put, List.getElem_toArray, List.getElem_cons_zero, List.getElem_cons_succ, List.setIfInBounds_toArray, List.set_cons_zero, List.set_cons_succ]
      refine wpAnyH_ready (rs := [8]) (by kernel_rfl) (by simp) ?_
      refine AllReadyH.cons rfl (fun K hK => ?_) AllReadyH.nil
      go_simp
      refine (CX.out _).mono ?_; rintro e w5 ⟨rfl, b5⟩
      go_wp2_with fail
      refine hK.out _ _ ?_ (fun hHeld => ?_)
      · (try dsimp only); exact LkS.mk_ (Whole.below HW.out.2.2.drew b5 HW.out.2.2.lt) (VecIs.up HW.out.2.1.drew b5) hok hgm
      clear hK K
      try simp only [Act.put, List.getElem_toArray, List.getElem_cons_zero, List.getElem_cons_succ, List.setIfInBounds_toArray, List.set_cons_zero, List.set_cons_succ]
      have HF := Lib.hid (HW.out.1.drew.trans (below_of_le b5 hN4))
      clear b5
      refine wpAnyH_done (by kernel_rfl) ?_ _
      go_wp2
      go_roundw
      case rel => exact ⟨j + 1, by omega, by go_num, HF.out⟩
      case measure => simp [intOf]; omega
    · have hj' : j = n := by omega
      subst hj'
      clear HA
      go_wp2
      go_end0
      exact ⟨rfl, B1.out.trans (below_of_le HO.out (by omega))⟩
theorem rjoin_nil {M : List Dt} (h : Vw M) : rjoin [] M = M := vw_ext (Vw.nil.join M) h fun c => by
  have h0 := h.ge0 c
  rw [mget_join Vw.nil h.1 h.ro]
  show max 0 (mget M c) = mget M c
  omega
/-- A vector that the call has made. -/
def NewVec (w : World) (M : List Dt) (e : Ending) (w' : World) : Prop := ∃ v b, e = .returned (.pointer (some ⟨v, 0, none⟩)) ∧ w.heap.size ≤ v ∧ w.heap.size ≤ b ∧ VecIs w' v b M ∧ Below w.heap.size w w'
theorem vccopy_any (w : World) (p : Option Addr) (M : List Dt) (h : VecAt w p M) : Calls Try.prog 33 #[.pointer p] w (NewVec w M) := by
  have CN := Lib.hid (vcnew_any w)
  rcases h with ⟨rfl, rfl⟩ | ⟨v, b, rfl, h⟩
  · have CJ := Lib.hid (fun W p => vcjoin_onil W p)
    go_enter Try.func33, Try.ntmps33
    go_wp2_with fail
    refine CN.out.mono ?_; rintro e w1 ⟨rfl, hv, hb⟩
    have H1 := Lib.hid (And.intro hv hb)
    clear hv hb
    go_wp2_with fail
    refine (CJ.out _ _).mono ?_; rintro e w2 ⟨rfl, b2⟩
    have HE := Lib.hid (show NewVec w [] (.returned (.pointer (some ⟨w.heap.size + 1, 0, none⟩))) w2 from ⟨_, _, rfl, by omega, Nat.le_refl _, H1.out.1.up b2, H1.out.2.trans (below_of_le b2 H1.out.2.size)⟩)
    clear b2
    go_wp2
    go_ret
    exact HE.out
  · have HV := Lib.hid h
    have hlb := h.ltb
    have CJ := Lib.hid (fun W v' b' (h1 : VecIs W v' b' []) (h2 : VecIs W v b M) (hne : b ≠ b') => vcjoin_in W v' b' v b [] M h1 h2 hne)
    have hM := rjoin_nil h.2.2
    rw [hM] at CJ
    clear h hM
    go_enter Try.func33, Try.ntmps33
    go_wp2_with fail
    refine CN.out.mono ?_; rintro e w1 ⟨rfl, hv, hb⟩
    have H1 := Lib.hid (And.intro hv hb)
    clear hv hb
    go_wp2_with fail
    refine (CJ.out _ _ _ H1.out.1 (HV.out.up H1.out.2) (by omega)).mono ?_; rintro e w2 ⟨rfl, hv2, hc2⟩
    have HE := Lib.hid (show NewVec w M (.returned (.pointer (some ⟨w.heap.size + 1, 0, none⟩))) w2 from ⟨_, _, rfl, by omega, Nat.le_refl _, hv2, H1.out.2.trans (hc2.below (fun k hk e => by have e' : k = w.heap.size := e; omega) H1.out.2.size)⟩)
    clear hv2 hc2
    go_wp2
    go_ret
    exact HE.out
end Go.Proofs.Ytailbppddnegoaa
