/- Layer 36 (peers): the document's table. -/
import Derived.Test.YtailbppddnegoaaR8
import Derived.Test.YtailbppddnegoaaYD
namespace Go.Proofs.Ytailbppddnegoaa
open Go.RowKit Go.Shelf
set_option linter.unusedVariables false
set_option maxRecDepth 100000
attribute [local go_sem ↓] Go.wp_at_zero Go.wp_at_succ

/-- Marks and a word; where a new block lies is told from both sides. -/
def MsB2 (w : World) (A0 : Option Addr) (L : List Dt) (r : Bool) (e : Ending) (w' : World) : Prop := ∃ A c, e = .returned (.tuple #[.slice A L.length c, .bool r]) ∧ MsAt w' A L ∧ (∀ k, bl A = some k → bl A0 = some k ∨ (w.heap.size ≤ k ∧ k < w'.heap.size)) ∧ Below w.heap.size w w'
def MsEnd2 (w : World) (A0 : Option Addr) (L : List Dt) (e : Ending) (w' : World) : Prop := ∃ A c, e = .returned (.slice A L.length c) ∧ MsAt w' A L ∧ (∀ k, bl A = some k → bl A0 = some k ∨ (w.heap.size ≤ k ∧ k < w'.heap.size)) ∧ Below w.heap.size w w'
set_option maxHeartbeats 1000000 in
theorem rraise17_lt (w : World) (A : Option Addr) (c : Nat) (L : List Dt) (a : Ac) (n : Int) (hr : MsAt w A L) (hn : L.length ≤ 100000000) :
    Calls Try.prog 18 #[.slice A L.length c, acV a, .int .i64 n] w (MsB2 w A (raiseL L a n) (raisedB L a n)) := by
  obtain ⟨d, i⟩ := a
  have CR := Lib.hid (fun w => rright_any d i n w)
  have CG := Lib.hid (fun (W : World) (hW : MsAt W A L) => rget17_any W W.heap.size A c L (d, i) hW (Nat.le_refl _) (by omega))
  have CS := Lib.hid (fun (W : World) (hW : MsAt W A L) => rset17_any W W.heap.size A c L (d, i) n hW (Nat.le_refl _) hn)
  have hrd : rightD ((d, i), n) = dotB d i n := rfl
  have hrb : raisedB L (d, i) n = (dotB d i n && decide (mget L (d, i) < n)) := rfl
  have hrl : raiseL L (d, i) n = if raisedB L (d, i) n = true then setL L (d, i) n false else L := rfl
  have B0 := Lib.hid ((Below.refl w.heap.size w).alloc (Nat.le_refl _) (.cells #[.int .i64 d, .int .i64 i] 25))
  have HW := Lib.hid (Whole.new w 25 #[.int .i64 d, .int .i64 i])
  have HV := Lib.hid (hr.up B0.out)
  have HO := Lib.hid hr
  have hs0 : (w.alloc (.cells #[.int .i64 d, .int .i64 i] 25)).heap.size = w.heap.size + 1 := by simp
  have HS := Lib.hid hs0
  generalize hq : mget L (d, i) = q at *
  generalize hT : setL L (d, i) n false = T at *
  have HL := Lib.hid (rfl : L.length = L.length)
  generalize hlen : L.length = m at *
  have HLen := Lib.hid hlen
  generalize hN : w.heap.size = N at *
  unfold acV
  unfold dotV at CR
  unfold acV at CG CS
  rw [hrl, hrb]
  clear hs0 hr hrd hrb hrl hq hT hlen HL
  cases hr : dotB d i n
  · have HE := Lib.hid (fun (W : World) (b : Below N w W) => (show MsB2 w A L false (.returned (.tuple #[.slice A m c, .bool false])) W from ⟨A, c, by rw [HLen.out], HO.out.up (by rw [hN]; exact b), fun k h => .inl h, by rw [hN]; exact b⟩))
    rw [hr] at CR
    simp only [Bool.false_and, Bool.false_eq_true, if_false]
    clear hr
    go_enter Try.func18, Try.ntmps18
    have hW := HW.out
    go_wp2_with fail
    refine (CR.out _).mono ?_; rintro e w1 ⟨rfl, b1⟩
    go_wp2
    go_ret2
    exact HE.out _ (B0.out.trans (below_of_le b1 (by have := HS.out; omega)))
  · rw [hr] at CR
    simp only [Bool.true_and]
    clear hr
    by_cases hlt : q < n
    · have hd : decide (q < n) = true := decide_eq_true hlt
      have hd2 : decide (n ≤ q) = false := decide_eq_false (by omega)
      have HE := Lib.hid (fun (W : World) (b : Below N w W) (A' : Option Addr) (c' : Nat) (h : MsAt W A' T) (hk : ∀ k, bl A' = some k → N ≤ k ∧ k < W.heap.size) => (show MsB2 w A T true (.returned (.tuple #[.slice A' T.length c', .bool true])) W from ⟨A', c', rfl, h, fun k hh => .inr (by rw [hN]; exact hk k hh), by rw [hN]; exact b⟩))
      simp only [hd, if_true]
      go_enter Try.func18, Try.ntmps18
      go_wp2_with fail
      refine (CR.out _).mono ?_; rintro e w1 ⟨rfl, b1⟩
      have hW1 := (HW.out.below b1 (by have := HS.out; omega))
      have k0 : w1.cell? ⟨N, 0, none⟩ = some (.int .i64 d) := by rw [hW1.cell]; rfl
      have k1 : w1.cell? ⟨N, 1, none⟩ = some (.int .i64 i) := by rw [hW1.cell]; rfl
      have HV1 := Lib.hid (And.intro (HV.out.up b1) (And.intro hW1 (B0.out.trans (below_of_le b1 (by have := HS.out; omega)))))
      clear b1 hW1
      go_wp2_with fail
      refine (CG.out _ HV1.out.1).mono ?_; rintro e w2 ⟨rfl, b2⟩
      have hW2 := (HV1.out.2.1.below b2 HV1.out.2.1.lt)
      have l0 : w2.cell? ⟨N, 0, none⟩ = some (.int .i64 d) := by rw [hW2.cell]; rfl
      have l1 : w2.cell? ⟨N, 1, none⟩ = some (.int .i64 i) := by rw [hW2.cell]; rfl
      have HV2 := Lib.hid (And.intro (HV1.out.1.up b2) (HV1.out.2.2.trans (below_of_le b2 (Nat.le_of_lt HV1.out.2.1.lt))))
      have hN2 : N ≤ w2.heap.size := Nat.le_of_lt hW2.lt
      clear b2 hW2 k0 k1
      go_wp2_with fail
      refine (CS.out _ HV2.out.1).mono ?_; rintro e w3 ⟨A3, c3, rfl, o3, b3⟩
      have HF := Lib.hid (HE.out w3 (HV2.out.2.trans (below_of_le b3 hN2)) A3 c3 (MsAt.own o3) (fun k hk => ⟨Nat.le_trans hN2 (o3.bl_lo k hk), (o3.block_lt k (by rw [ownBlock_bl]; exact hk)).2⟩))
      clear o3 b3
      go_wp2
      go_ret2
      exact HF.out
    · have hd : decide (q < n) = false := decide_eq_false hlt
      have hd2 : decide (n ≤ q) = true := decide_eq_true (by omega)
      have HE := Lib.hid (fun (W : World) (b : Below N w W) => (show MsB2 w A L false (.returned (.tuple #[.slice A m c, .bool false])) W from ⟨A, c, by rw [HLen.out], HO.out.up (by rw [hN]; exact b), fun k h => .inl h, by rw [hN]; exact b⟩))
      simp only [hd, Bool.false_eq_true, if_false]
      go_enter Try.func18, Try.ntmps18
      go_wp2_with fail
      refine (CR.out _).mono ?_; rintro e w1 ⟨rfl, b1⟩
      have hW1 := (HW.out.below b1 (by have := HS.out; omega))
      have k0 : w1.cell? ⟨N, 0, none⟩ = some (.int .i64 d) := by rw [hW1.cell]; rfl
      have k1 : w1.cell? ⟨N, 1, none⟩ = some (.int .i64 i) := by rw [hW1.cell]; rfl
      have HV1 := Lib.hid (And.intro (HV.out.up b1) (And.intro hW1.lt (B0.out.trans (below_of_le b1 (by have := HS.out; omega)))))
      clear b1 hW1
      go_wp2_with fail
      refine (CG.out _ HV1.out.1).mono ?_; rintro e w2 ⟨rfl, b2⟩
      have HF := Lib.hid (HE.out w2 (HV1.out.2.2.trans (below_of_le b2 (Nat.le_of_lt HV1.out.2.1))))
      clear b2
      go_wp2
      go_ret2
      exact HF.out
set_option maxHeartbeats 1000000 in
theorem rjoin17_lt (w : World) (A A' : Option Addr) (c c' : Nat) (L O : List Dt) (hr : MsAt w A L) (ho : MsAt w A' O) (hv : Vw L) (hn : O.length ≤ 9223372036854775807) :
    Calls Try.prog 39 #[.slice A L.length c, .slice A' O.length c'] w (MsEnd2 w A (rjoin L O)) := by
  have CR := Lib.hid (fun (W : World) (A : Option Addr) (c : Nat) (L : List Dt) (a : Ac) (n : Int) (hr : MsAt W A L) (hv : Vw L) => rraise17_lt W A c L a n hr (by have := hv.len; omega))
  have R0 := Lib.hid (And.intro hr (Below.refl w.heap.size w))
  have HO := Lib.hid ho
  have HV := Lib.hid hv
  generalize hlen : O.length = n at *
  have HL := Lib.hid hlen
  have hl0 : ∃ l0, L.length = l0 := ⟨_, rfl⟩
  obtain ⟨l0, hl0⟩ := hl0
  have HL0 := Lib.hid hl0
  rw [hl0]
  generalize hN : w.heap.size = N at *
  unfold acV at CR
  clear hr ho hlen hv hl0
  go_enter Try.func39, Try.ntmps39
  go_wp2_with fail
  go_loopw [0, 5] (fun y i wr => ∃ (j : Nat) (A1 : Option Addr) (c1 : Nat), j ≤ n ∧ i = .int .i64 j ∧ y = .slice A1 (rjoin L (O.take j)).length c1 ∧ MsAt wr A1 (rjoin L (O.take j)) ∧ Below N w wr ∧ (∀ k, bl A1 = some k → bl A = some k ∨ (N ≤ k ∧ k < wr.heap.size))) (fun _ i _ => n - (intOf i).toNat)
  case atStart => exact ⟨0, A, c, by omega, rfl, by rw [← HL0.out]; rfl, R0.out.1, R0.out.2, fun k h => .inl h⟩
  case round =>
    obtain ⟨j, A1, c1, hj, rfl, rfl, hM, hb, hk1⟩ := hrel
    have HK1 := Lib.hid hk1
    clear hk1
    have HM := Lib.hid (And.intro hM hb)
    clear hM hb R0
    by_cases hlt : j < n
    · obtain ⟨x, hx⟩ : ∃ x, O[j]? = some x := ⟨O[j]'(by have := HL.out; omega), List.getElem?_eq_getElem _⟩
      obtain ⟨b0, o0, hA, hb0, k0, k1, k2⟩ := (Ds.below (hN ▸ HO.out : Ds w N A' O) HM.out.2).at_ hx
      have htk := Lib.hid (show rjoin L (O.take (j + 1)) = raiseL (rjoin L (O.take j)) x.1 x.2 by
        rw [List.take_add_one, hx, raiseL_eq (HV.out.join _)]; exact rjoin_snoc _ _ _)
      have CX := Lib.hid (fun (W : World) (A1 : Option Addr) (h : MsAt W A1 (rjoin L (O.take j))) => CR.out W A1 c1 (rjoin L (O.take j)) x.1 x.2 h (HV.out.join _))
      obtain ⟨⟨d, i⟩, s⟩ := x
      simp only at k0 k1 k2
      have HK := Lib.hid (And.intro k0 (And.intro k1 k2))
      have hNr : N ≤ wr.heap.size := by have := HM.out.2.size; omega
      clear hx k0 k1 k2
      subst hA
      simp only at CX htk
      generalize (rjoin L (O.take j)) = Lj at *
      generalize hlj : Lj.length = lj at *
      go_wp2_with fail
      refine wp_region_held_drew (S := (fun W => W.cell? ⟨b0, o0 + j * 3, none⟩ = some (.int .i64 d) ∧ W.cell? ⟨b0, o0 + j * 3 + 1, none⟩ = some (.int .i64 i) ∧ W.cell? ⟨b0, o0 + j * 3 + 2, none⟩ = some (.int .i64 s))) (by kernel_rfl) ?_ (fun hHeld => ?_)
      · (try dsimp only); exact HK.out
      refine wpAnyH_take (i := 0) (v := ?_) rfl (by kernel_rfl) (by kernel_rfl) (by kernel_rfl) (fun _ _ _ h => h) (Or.inl ⟨by rfl, ?_⟩) (by assumption) ?_
      rotate_left
      first | (focus ((intro w hSw; (try dsimp only at hSw); go_simp); (try with_reducible rfl); done)) | fail
      try simp only [Act.put, List.getElem_toArray, List.getElem_cons_zero, List.setIfInBounds_toArray, List.set_cons_zero, List.set_cons_succ]
      refine wpAnyH_take (i := 1) (v := ?_) rfl (by kernel_rfl) (by kernel_rfl) (by kernel_rfl) (fun _ _ _ h => h) (Or.inl ⟨by rfl, ?_⟩) (by assumption) ?_
      rotate_left
      first | (focus ((intro w hSw; (try dsimp only at hSw); go_simp); (try with_reducible rfl); done)) | fail
      try simp only [Act.put, List.getElem_toArray, List.getElem_cons_zero, List.getElem_cons_succ, List.setIfInBounds_toArray, List.set_cons_zero, List.set_cons_succ]
      refine wpAnyH_take (i := 2) (v := ?_) rfl (by kernel_rfl) (by kernel_rfl) (by kernel_rfl) (fun _ _ _ h => h) (Or.inl ⟨by rfl, ?_⟩) (by assumption) ?_
      rotate_left
      first | (focus ((intro w hSw; (try dsimp only at hSw); go_simp); (try with_reducible rfl); done)) | fail
      try simp only [Act.put, List.getElem_toArray, List.getElem_cons_zero, List.getElem_cons_succ, List.setIfInBounds_toArray, List.set_cons_zero, List.set_cons_succ]
      refine wpAnyH_take (i := 3) (v := ?_) rfl (by kernel_rfl) (by kernel_rfl) (by kernel_rfl) (fun _ _ _ h => h) (Or.inl ⟨by rfl, ?_⟩) (by assumption) ?_
      rotate_left
      first | (focus ((intro w hSw; (try dsimp only at hSw); go_simp); (try with_reducible rfl); done)) | fail
      try simp only [Act.put, List.getElem_toArray, List.getElem_cons_zero, List.getElem_cons_succ, List.setIfInBounds_toArray, List.set_cons_zero, List.set_cons_succ]
      refine wpAnyH_take (i := 4) (v := ?_) rfl (by kernel_rfl) (by kernel_rfl) (by kernel_rfl) (fun _ _ _ h => h) (Or.inl ⟨by rfl, ?_⟩) (by assumption) ?_
      rotate_left
      first | (focus ((intro w hSw; (try dsimp only at hSw); go_simp); (try with_reducible rfl); done)) | fail
      try simp only [Act.put, List.getElem_toArray, List.getElem_cons_zero, List.getElem_cons_succ, List.setIfInBounds_toArray, List.set_cons_zero, List.set_cons_succ]
      refine wpAnyH_take (i := 5) (v := ?_) rfl (by kernel_rfl) (by kernel_rfl) (by kernel_rfl) (fun _ _ _ h => h) (Or.inl ⟨by rfl, ?_⟩) (by assumption) ?_
      rotate_left
      first | (focus ((intro w hSw; (try dsimp only at hSw); go_simp); (try with_reducible rfl); done)) | fail
      try simp only [Act.put, List.getElem_toArray, List.getElem_cons_zero, List.getElem_cons_succ, List.setIfInBounds_toArray, List.set_cons_zero, List.set_cons_succ]
      refine wpAnyH_take (i := 6) (v := ?_) rfl (by kernel_rfl) (by kernel_rfl) (by kernel_rfl) (fun _ _ _ h => h) (Or.inl ⟨by rfl, ?_⟩) (by assumption) ?_
      rotate_left
      first | (focus ((intro w hSw; (try dsimp only at hSw); go_simp); (try with_reducible rfl); done)) | fail
      try simp only [Act.put, List.getElem_toArray, List.getElem_cons_zero, List.getElem_cons_succ, List.setIfInBounds_toArray, List.set_cons_zero, List.set_cons_succ]
      refine wpAnyH_take (i := 7) (v := ?_) rfl (by kernel_rfl) (by kernel_rfl) (by kernel_rfl) (fun _ _ _ h => h) (Or.inl ⟨by rfl, ?_⟩) (by assumption) ?_
      rotate_left
      first | (focus ((intro w hSw; (try dsimp only at hSw); go_simp); (try with_reducible rfl); done)) | fail
      try simp only [Act.put, List.getElem_toArray, List.getElem_cons_zero, List.getElem_cons_succ, List.setIfInBounds_toArray, List.set_cons_zero, List.set_cons_succ]
      refine wpAnyH_take (i := 8) (v := ?_) rfl (by kernel_rfl) (by kernel_rfl) (by kernel_rfl) (fun _ _ _ h => h) (Or.inl ⟨by rfl, ?_⟩) (by assumption) ?_
      rotate_left
      first | (focus ((intro w hSw; (try dsimp only at hSw); go_simp); (try with_reducible rfl); done)) | fail
      try simp only [Act.put, List.getElem_toArray, List.getElem_cons_zero, List.getElem_cons_succ, List.setIfInBounds_toArray, List.set_cons_zero, List.set_cons_succ]
      refine wpAnyH_take (i := 9) (v := ?_) rfl (by kernel_rfl) (by kernel_rfl) (by kernel_rfl) (fun _ _ _ h => h) (Or.inl ⟨by rfl, ?_⟩) (by assumption) ?_
      rotate_left
      first | (focus ((intro w hSw; (try dsimp only at hSw); go_simp); (try with_reducible rfl); done)) | fail
      try simp only [Act.put, List.getElem_toArray, List.getElem_cons_zero, List.getElem_cons_succ, List.setIfInBounds_toArray, List.set_cons_zero, List.set_cons_succ]
      refine wpAnyH_take (i := 10) (v := ?_) rfl (by kernel_rfl) (by kernel_rfl) (by kernel_rfl) (fun _ _ _ h => h) (Or.inl ⟨by rfl, ?_⟩) (by assumption) ?_
      rotate_left
      first | (focus ((intro w hSw; (try dsimp only at hSw); go_simp); (try with_reducible rfl); done)) | fail
      try simp only [Act.put, List.getElem_toArray, List.getElem_cons_zero, List.getElem_cons_succ, List.setIfInBounds_toArray, List.set_cons_zero, List.set_cons_succ]
      refine wpAnyH_ready (rs := [11]) (by kernel_rfl) (by simp) ?_
      refine AllReadyH.cons rfl (fun K hK => ?_) AllReadyH.nil
      go_simp
      refine (CX.out _ _ (HM.out.1.up (Below.drew (Below.refl _ _)))).mono ?_; rintro e w5 ⟨A5, c5, rfl, hM5, hk5, b5⟩
      go_wp2_with fail
      refine hK.out _ _ ?_ (fun hHeld => ?_)
      · (try dsimp only); exact ⟨(b5.cell (by show b0 < wr.heap.size; omega)).trans hHeld.1, (b5.cell (by show b0 < wr.heap.size; omega)).trans hHeld.2.1, (b5.cell (by show b0 < wr.heap.size; omega)).trans hHeld.2.2⟩
      clear hK K
      try simp only [Act.put, List.getElem_toArray, List.getElem_cons_zero, List.getElem_cons_succ, List.setIfInBounds_toArray, List.set_cons_zero, List.set_cons_succ]
      have HF := Lib.hid (And.intro hM5 (And.intro (HM.out.2.drew.trans (below_of_le b5 hNr)) (show ∀ k, bl A5 = some k → bl A = some k ∨ (N ≤ k ∧ k < w5.heap.size) from fun k hk => by
        rcases hk5 k hk with h | h
        · rcases HK1.out k h with h | h
          · exact .inl h
          · exact .inr ⟨h.1, Nat.lt_of_lt_of_le h.2 b5.size⟩
        · exact .inr ⟨Nat.le_trans hNr h.1, h.2⟩)))
      clear hM5 b5 hk5
      refine wpAnyH_take (i := 12) (v := ?_) rfl (by kernel_rfl) (by kernel_rfl) (by kernel_rfl) (fun _ _ _ h => h) (Or.inl ⟨by rfl, ?_⟩) (by assumption) ?_
      rotate_left
      first | (focus ((intro w hSw; (try dsimp only at hSw); go_simp); (try with_reducible rfl); done)) | fail
      try simp only [Act.put, List.getElem_toArray, List.getElem_cons_zero, List.getElem_cons_succ, List.setIfInBounds_toArray, List.set_cons_zero, List.set_cons_succ]
      refine wpAnyH_take (i := 13) (v := ?_) rfl (by kernel_rfl) (by kernel_rfl) (by kernel_rfl) (fun _ _ _ h => h) (Or.inl ⟨by rfl, ?_⟩) (by assumption) ?_
      rotate_left
      first | (focus ((intro w hSw; (try dsimp only at hSw); go_simp); (try with_reducible rfl); done)) | fail
      try simp only [Act.put, List.getElem_toArray, List.getElem_cons_zero, List.getElem_cons_succ, List.setIfInBounds_toArray, List.set_cons_zero, List.set_cons_succ]
      refine wpAnyH_take (i := 14) (v := ?_) rfl (by kernel_rfl) (by kernel_rfl) (by kernel_rfl) (fun _ _ _ h => h) (Or.inl ⟨by rfl, ?_⟩) (by assumption) ?_
      rotate_left
      first | (focus ((intro w hSw; (try dsimp only at hSw); go_simp); (try with_reducible rfl); done)) | fail
      try simp only [Act.put, List.getElem_toArray, List.getElem_cons_zero, List.getElem_cons_succ, List.setIfInBounds_toArray, List.set_cons_zero, List.set_cons_succ]
      refine wpAnyH_take (i := 15) (v := ?_) rfl (by kernel_rfl) (by kernel_rfl) (by kernel_rfl) (fun _ _ _ h => h) (Or.inl ⟨by rfl, ?_⟩) (by assumption) ?_
      rotate_left
      first | (focus ((intro w hSw; (try dsimp only at hSw); go_simp); (try with_reducible rfl); done)) | fail
      try simp only [Act.put, List.getElem_toArray, List.getElem_cons_zero, List.getElem_cons_succ, List.setIfInBounds_toArray, List.set_cons_zero, List.set_cons_succ]
      refine wpAnyH_take (i := 16) (v := ?_) rfl (by kernel_rfl) (by kernel_rfl) (by kernel_rfl) (fun _ _ _ h => h) (Or.inl ⟨by rfl, ?_⟩) (by assumption) ?_
      rotate_left
      first | (focus ((intro w hSw; (try dsimp only at hSw); go_simp); (try with_reducible rfl); done)) | fail
      try simp only [Act.put, List.getElem_toArray, List.getElem_cons_zero, List.getElem_cons_succ, List.setIfInBounds_toArray, List.set_cons_zero, List.set_cons_succ]
      refine wpAnyH_done (by kernel_rfl) ?_ _
      go_wp2
      go_roundw
      case rel => exact ⟨j + 1, A5, c5, by omega, by go_num, by rw [htk.out], by rw [htk.out]; exact HF.out.1, HF.out.2.1, HF.out.2.2⟩
      case measure => simp [intOf]; omega
    · have hj' : j = n := by omega
      subst hj'
      have ht := Lib.hid (show O.take j = O by rw [List.take_of_length_le (by have := HL.out; omega)])
      have HE := Lib.hid (show MsEnd2 w A (rjoin L O) (.returned (.slice A1 (rjoin L (O.take j)).length c1)) wr from ⟨A1, c1, by rw [ht.out], by have := HM.out.1; rw [ht.out] at this; exact this, by rw [hN]; exact HK1.out, by rw [hN]; exact HM.out.2⟩)
      go_wp2
      go_ret
      exact HE.out
/-- What the document's table has of a device. -/
structure Rn where
  A : Option Addr
  c : Nat
  M : List Dt
def sV (x : Rn) : Value := .slice x.A x.M.length x.c
def rtK (Rs : List Rn) : List (List Dt) := Rs.map (·.M)
theorem rtK_len (Rs : List Rn) : (rtK Rs).length = Rs.length := by simp [rtK]
theorem rtK_get {Rs : List Rn} {i : Nat} {x : Rn} (hx : Rs[i]? = some x) : (rtK Rs)[i]?.getD [] = x.M := by
  unfold rtK
  rw [List.getElem?_map, hx]
  rfl
structure RTab (w : World) (A : Option Addr) (Rs : List Rn) : Prop where
  rd : Rd w w.heap.size 1 A Rs.length (Rs.map sV)
  ms : ∀ x ∈ Rs, MsAt w x.A x.M
  lo : ∀ x ∈ Rs, ∀ k, bl x.A = some k → k < w.heap.size
theorem RTab.up {w w' : World} {A : Option Addr} {Rs : List Rn} (h : RTab w A Rs) (b : Below w.heap.size w w') : RTab w' A Rs := ⟨(h.rd.below b).more b.size, fun x hx => (h.ms x hx).up b, fun x hx k hk => Nat.lt_of_lt_of_le (h.lo x hx k hk) b.size⟩
theorem RTab.at_ {w : World} {A : Option Addr} {Rs : List Rn} (h : RTab w A Rs) {i : Nat} {x : Rn} (hx : Rs[i]? = some x) : ∃ b o, A = some ⟨b, o, none⟩ ∧ b < w.heap.size ∧ w.cell? ⟨b, o + i, none⟩ = some (.slice x.A x.M.length x.c) ∧ MsAt w x.A x.M := by
  have hi : i < Rs.length := (List.getElem?_eq_some_iff.1 hx).1
  obtain ⟨b, o, u, hA, hb, hu, hc⟩ := h.rd.at_ hi
  rw [List.getElem?_map, hx] at hu
  cases hu
  exact ⟨b, o, hA, hb, hc, h.ms x (List.mem_of_getElem? hx)⟩
theorem info_ms : (Try.prog.info? 22).map (fun i => (i.zero, i.size, i.bytes)) = some (some (.slice none 0 0), 1, 24) := by kernel_rfl
theorem appS (w : World) (base : Nat) (A : Option Addr) (n c : Nat) (xs : List Value) (hown : Own w base 22 1 A n c xs) (B : Nat) (A' : Option Addr) (m c' : Nat) (news : List Value) (hr : Rd w B 1 A' m news) (h1 : ∀ u ∈ news, u.oneCell' = true) (hlen : n + m ≤ 1000000000) (hbase : base ≤ w.heap.size) :
    ∃ A2 c2 w', (Builtin.append_ #[87, 87] 87 #[.slice A n c, .slice A' m c']).run Try.prog w = .ok (.slice A2 (n + m) c2) w' ∧ Own w' base 22 1 A2 (n + m) c2 (xs ++ news) ∧ w.grownBy w' (bl A) ∧ Near w A A2 := by
  obtain ⟨i0, hi, hz0, hz1, hz2⟩ := info_parts info_ms
  exact run_append_rdn (P := Try.prog) w 87 87 base 22 i0 (.slice none 0 0) 1 24 Try.underlying87 hi hz0 hz1 hz2 rfl (by decide) (by decide) A n c xs hown B A' m c' news hr h1 (by omega) hbase
theorem rother36_any (w : World) (own : Int) (A : Option Addr) (n c : Nat) (d : Int) :
    Calls Try.prog 104 #[.agg #[.int .i64 own, .slice A n c], .int .i64 d] w fun e w' => e = .returned (.bool (othB own n d)) ∧ Below w.heap.size w w' := by
  have B0 := Lib.hid ((Below.refl w.heap.size w).alloc (Nat.le_refl _) (.cells #[.int .i64 own, .slice A n c] 89))
  by_cases h1 : 0 ≤ d
  · by_cases h2 : d < (n : Int)
    · have hz : othB own n d = decide (d ≠ own) := by unfold othB; simp [h1, h2]
      rw [hz]
      go_enter Try.func104, Try.ntmps104
      go_wp2
      go_ret
      exact ⟨by by_cases h : d = own <;> simp [h], B0.out⟩
    · have hz : othB own n d = false := by unfold othB; simp [h1, h2]
      rw [hz]
      go_enter Try.func104, Try.ntmps104
      go_wp2
      go_ret
      exact ⟨by simp, B0.out⟩
  · have hz : othB own n d = false := by unfold othB; simp [h1]
    rw [hz]
    go_enter Try.func104, Try.ntmps104
    go_wp2
    go_ret
    exact ⟨by simp, B0.out⟩
/-- The document's table in the making. -/
structure RMk (w wr : World) (N : Nat) (own : Int) (A : Option Addr) (c j : Nat) (Rs : List Rn) : Prop where
  res : Whole wr N 89 #[.int .i64 0, .slice none 0 0]
  blk : Whole wr (N + 1) 89 #[.int .i64 own, .slice A j c]
  row : Own wr N 22 1 A j c (Rs.map sV)
  ms : ∀ x ∈ Rs, x.M = [] ∧ ∀ k, bl x.A = some k → k < wr.heap.size
  len : Rs.length = j
  bel : Below N w wr
def RNew (w : World) (own : Int) (n : Nat) (e : Ending) (w' : World) : Prop := ∃ A c Rs, e = .returned (.agg #[.int .i64 own, .slice A n c]) ∧ Rs.length = n ∧ RTab w' A Rs ∧ rtK Rs = List.replicate n [] ∧ Below w.heap.size w w'
theorem rnew36_any (w : World) (n : Nat) (own : Int) (h64 : n ≤ 64) :
    Calls Try.prog 62 #[.int .i64 (n : Int), .int .i64 own] w (RNew w own n) := by
  have H0 := Lib.hid (show RMk w ((w.alloc (.cells #[.int .i64 0, .slice none 0 0] 89)).alloc (.cells #[.int .i64 own, .slice none 0 0] 89)) w.heap.size own none 0 0 [] from
    ⟨(Whole.new _ _ _).alloc _, by
      have := Whole.new (w.alloc (.cells #[.int .i64 0, .slice none 0 0] 89)) 89 #[.int .i64 own, .slice none 0 0]
      simpa using this, Own.nil_, by simp, rfl, ((Below.refl _ _).alloc (Nat.le_refl _) _).alloc (by simp) _⟩)
  have H64 := Lib.hid h64
  generalize hN : w.heap.size = N at *
  go_enter Try.func62, Try.ntmps62
  go_wp2_with fail
  generalize ((w.alloc (.cells #[.int .i64 0, .slice none 0 0] 89)).alloc (.cells #[.int .i64 own, .slice none 0 0] 89)) = W0 at *
  go_loopw [6] (fun p wr => ∃ (j : Nat) (A : Option Addr) (c : Nat) (Rs : List Rn), j ≤ n ∧ p = .int .i64 j ∧ RMk w wr N own A c j Rs) (fun p _ => n - (intOf p).toNat)
  case atStart => exact ⟨0, none, 0, [], by omega, rfl, H0.out⟩
  case round =>
    obtain ⟨j, A, c, Rs, hj, rfl, hM⟩ := hrel
    have HM := Lib.hid hM
    clear hM H0
    have c0 := HM.out.blk.cell 0
    have c1 := HM.out.blk.cell 1
    change _ = some (Value.int .i64 own) at c0
    change _ = some (Value.slice A j c) at c1
    by_cases hlt : j < n
    · have hj64 := H64.out
      have hNr : N + 1 < wr.heap.size := HM.out.blk.lt
      have hsrc := Rd.fresh (wr.alloc (.cells #[] 33)) #[.slice (some ⟨wr.heap.size, 0, none⟩) 0 0] 22 1 rfl
      simp only [World.size_alloc] at hsrc
      have hrow := (HM.out.row.alloc (.cells #[] 33)).alloc (.cells #[.slice (some ⟨wr.heap.size, 0, none⟩) 0 0] 22)
      have hblk := (HM.out.blk.alloc (.cells #[] 33)).alloc (.cells #[.slice (some ⟨wr.heap.size, 0, none⟩) 0 0] 22)
      have hres := (HM.out.res.alloc (.cells #[] 33)).alloc (.cells #[.slice (some ⟨wr.heap.size, 0, none⟩) 0 0] 22)
      have hbel : Below N w ((wr.alloc (.cells #[] 33)).alloc (.cells #[.slice (some ⟨wr.heap.size, 0, none⟩) 0 0] 22)) := (HM.out.bel.alloc (by omega) _).alloc (by simp; omega) _
      have hz4 : wr.heap.size + 2 = ((wr.alloc (.cells #[] 33)).alloc (.cells #[.slice (some ⟨wr.heap.size, 0, none⟩) 0 0] 22)).heap.size := by simp
      obtain ⟨W4, hW4⟩ : ∃ W4, ((wr.alloc (.cells #[] 33)).alloc (.cells #[.slice (some ⟨wr.heap.size, 0, none⟩) 0 0] 22)) = W4 := ⟨_, rfl⟩
      rw [hW4] at hsrc hrow hblk hres hbel hz4
      obtain ⟨A2, c2, w5, q5, o5, g5, n5⟩ := appS W4 N A j c (Rs.map sV) hrow _ _ 1 1 _ hsrc (by simp [Value.oneCell']) (by omega) (by omega)
      have hbA : ∀ k, k = N ∨ k = N + 1 → bl A ≠ some k := fun k hk e => by
        rcases hk with rfl | rfl
        · exact (hrow.ne_ hres (by decide)) (by rw [ownBlock_bl]; exact e)
        · exact (hrow.ne_ hblk (by decide)) (by rw [ownBlock_bl]; exact e)
      have hblk5 := hblk.grown g5 (hbA _ (.inr rfl))
      have hres5 := hres.grown g5 (hbA _ (.inl rfl))
      have hbel5 : Below N w w5 := hbel.grown g5 (by omega) fun k hk => hrow.bl_lo k hk
      have cb5 := hblk5.cell 1
      change _ = some (Value.slice A j c) at cb5
      have fb5 := hblk5.free 1
      have hA2 : bl A2 ≠ some (N + 1) := fun e => (o5.ne_ hblk5 (by decide)) (by rw [ownBlock_bl]; exact e)
      have HF := Lib.hid (show RMk w (w5.setCell ⟨N + 1, 1, none⟩ (.slice A2 (j + 1) c2)) N own A2 c2 (j + 1) (Rs ++ [⟨some ⟨wr.heap.size, 0, none⟩, 0, []⟩]) from
        ⟨hres5.far (by simp only; omega) _, hblk5.set_ 1 _, by
          have := o5.far (p := ⟨N + 1, 1, none⟩) (by rw [ownBlock_bl]; exact hA2) (.slice A2 (j + 1) c2)
          rw [List.map_append]
          exact this, fun x hx => by
          rcases List.mem_append.1 hx with hx | hx
          · exact ⟨(HM.out.ms x hx).1, fun k hk => by have := (HM.out.ms x hx).2 k hk; have := g5.size; simp; omega⟩
          · simp at hx; subst hx; exact ⟨rfl, fun k hk => by cases hk; have := g5.size; simp; omega⟩, by rw [List.length_append, HM.out.len]; rfl, hbel5.setCell (by simp only; omega) _⟩)
      have Q5 := Lib.hid q5
      clear hsrc hrow hblk hres hbel q5 o5 g5 n5 hbA hblk5 hres5 hbel5 hA2
      rw [← hW4] at Q5
      clear hW4 hz4
      go_wp2_with (at_builtin; refine wpList_want (by rfl) (fun K hK => wp_append_runs _ _ _ _ _ rfl _ _ rfl rfl _ _ Q5.out (hK _ _ ?_)))
      go_roundw
      case rel => exact ⟨j + 1, A2, c2, _, by omega, by go_num, HF.out⟩
      case measure => simp [intOf]; omega
    · have hj' : j = n := by omega
      subst hj'
      have r0 := HM.out.res.cell 0
      have r1 := HM.out.res.cell 1
      change _ = some (Value.int .i64 0) at r0
      change _ = some (Value.slice none 0 0) at r1
      have f0 := HM.out.res.free 0
      have f1 := HM.out.res.free 1
      have hW := (HM.out.res.set_ 0 (.int .i64 own)).set_ 1 (.slice A j c)
      have r0' := hW.cell 0
      have r1' := hW.cell 1
      change _ = some (Value.int .i64 own) at r0'
      change _ = some (Value.slice A j c) at r1'
      have hrow : Own ((wr.setCell ⟨N, 0, none⟩ (.int .i64 own)).setCell ⟨N, 1, none⟩ (.slice A j c)) N 22 1 A j c (Rs.map sV) :=
        (HM.out.row.far (p := ⟨N, 0, none⟩) (HM.out.row.ne_ HM.out.res (by decide)) _).far (p := ⟨N, 1, none⟩) (HM.out.row.ne_ HM.out.res (by decide)) _
      have HF := Lib.hid (show RNew w own j (.returned (.agg #[.int .i64 own, .slice A j c])) ((wr.setCell ⟨N, 0, none⟩ (.int .i64 own)).setCell ⟨N, 1, none⟩ (.slice A j c)) from by
        refine ⟨A, c, Rs, rfl, HM.out.len, ⟨by have := hrow.rd; rw [HM.out.len]; exact this, fun x hx => ?_, fun x hx k hk => ?_⟩, ?_, ?_⟩
        · rw [show x.M = [] from (HM.out.ms x hx).1]
          exact ⟨rfl, fun h => absurd h (by simp)⟩
        · have := (HM.out.ms x hx).2 k hk
          simpa using this
        · refine List.eq_replicate_iff.2 ⟨by rw [rtK_len, HM.out.len], fun M hM => ?_⟩
          obtain ⟨x, hx, rfl⟩ := List.mem_map.1 hM
          exact (HM.out.ms x hx).1
        · rw [hN]
          exact (HM.out.bel.setCell (by simp only; omega) _).setCell (by simp only; omega) _)
      clear hW hrow
      go_wp2
      refine bodyPost_ret (v := .agg #[.int .i64 own, .slice A j c]) (by simp [results, Try.results62, go_sem, r0', r1']) rfl ?_
      exact HF.out
theorem Own.whole {w : World} {base n c : Nat} {e : TypeId} {A : Option Addr} {xs : List Value} (h : Own w base e 1 A n c xs) (hn : 0 < n) : ∃ g cur, A = some ⟨g, 0, none⟩ ∧ base ≤ g ∧ Whole w g e cur ∧ (∀ (j : Nat) (u : Value), xs[j]? = some u → cur[j]? = some u) := by
  rcases h.1.2 with ⟨_, h0⟩ | ⟨gb, cap, cur, hh, hb, hgb, _, _, _, hc⟩
  · omega
  · cases hh
    refine ⟨gb, cur, rfl, hb, hgb, fun j u hu => ?_⟩
    rw [← hc, List.getElem?_take] at hu
    split at hu
    · simpa using hu
    · cases hu
theorem own_e1 (w : World) (e : TypeId) (base : Nat) (h : base ≤ w.heap.size) : Own (w.alloc (.cells #[] e)) base e 1 (some ⟨w.heap.size, 0, none⟩) 0 0 [] :=
  ⟨⟨rfl, .inr ⟨w.heap.size, 0, #[], rfl, h, Whole.new _ _ _, Nat.le_refl _, by simp [maxLen], by simp, by simp⟩⟩, Nat.le_refl _, by simp [maxLen]⟩
/-- The blocks that a table reads. -/
def Reach (A : Option Addr) (Rs : List Rn) (k : Nat) : Prop := bl A = some k ∨ ∃ x ∈ Rs, bl x.A = some k
def RHeard (w : World) (own : Int) (n : Nat) (A0 : Option Addr) (Rs0 : List Rn) (d : Int) (L : List Dt) (e : Ending) (w' : World) : Prop :=
  ∃ A c Rs, e = .returned (.tuple #[.agg #[.int .i64 own, .slice A n c], .int .i64 (heardE own n d (chkE L))]) ∧ Rs.length = n ∧ RTab w' A Rs ∧ rtK Rs = heardK own (rtK Rs0) d L (chkE L) ∧ Below w.heap.size w w' ∧ ∀ k, Reach A Rs k → Reach A0 Rs0 k ∨ w.heap.size ≤ k
set_option maxHeartbeats 2000000 in
theorem rheard36_any (w : World) (own : Int) (A : Option Addr) (c : Nat) (Rs : List Rn) (n : Nat) (hRn : Rs.length = n) (h : RTab w A Rs) (hn64 : n ≤ 64) (hv : KVw (rtK Rs)) (d : Int) (Al : Option Addr) (cl : Nat) (L : List Dt) (hr : MsAt w Al L) (hn : L.length ≤ 9223372036854775807) :
    Calls Try.prog 63 #[.agg #[.int .i64 own, .slice A n c], .int .i64 d, .slice Al L.length cl] w (RHeard w own n A Rs d L) := by
  have CO := Lib.hid (fun W => rother36_any W own A n c d)
  have CK := Lib.hid (fun W (h : MsAt W Al L) => rcheck17_any W Al cl L h hn)
  have HT := Lib.hid h
  have HR := Lib.hid hr
  generalize hN : w.heap.size = N at *
  have H0 := Lib.hid (show Whole ((w.alloc (.cells #[.int .i64 own, .slice A n c] 89)).alloc (.cells #[.int .i64 0, .slice none 0 0] 89)) N 89 #[.int .i64 own, .slice A n c] ∧ Whole ((w.alloc (.cells #[.int .i64 own, .slice A n c] 89)).alloc (.cells #[.int .i64 0, .slice none 0 0] 89)) (N + 1) 89 #[.int .i64 0, .slice none 0 0] ∧ Below N w ((w.alloc (.cells #[.int .i64 own, .slice A n c] 89)).alloc (.cells #[.int .i64 0, .slice none 0 0] 89)) from by
    refine ⟨?_, ?_, ((Below.refl N w).alloc (by omega) _).alloc (by simp; omega) _⟩
    · have := (Whole.new w 89 #[.int .i64 own, .slice A n c]).alloc (.cells #[.int .i64 0, .slice none 0 0] 89)
      rw [hN] at this
      exact this
    · have := Whole.new (w.alloc (.cells #[.int .i64 own, .slice A n c] 89)) 89 #[.int .i64 0, .slice none 0 0]
      simp only [World.size_alloc] at this
      rw [hN] at this
      exact this)
  clear h hr
  go_enter Try.func63, Try.ntmps63
  go_wp2_with fail
  generalize ((w.alloc (.cells #[.int .i64 own, .slice A n c] 89)).alloc (.cells #[.int .i64 0, .slice none 0 0] 89)) = W0 at *
  refine (CO.out _).mono ?_; rintro e w1 ⟨rfl, b1⟩
  have hz0 : N + 1 < W0.heap.size := H0.out.2.1.lt
  have H1 := Lib.hid (And.intro (H0.out.1.below b1 (by omega)) (And.intro (H0.out.2.1.below b1 hz0) (H0.out.2.2.trans (below_of_le b1 (by omega)))))
  have hz1 : N + 1 < w1.heap.size := H1.out.2.1.lt
  clear b1 H0
  have t0 := H1.out.1.cell 0
  have t1 := H1.out.1.cell 1
  change _ = some (Value.int .i64 own) at t0
  change _ = some (Value.slice A n c) at t1
  have r0 := H1.out.2.1.cell 0
  have r1 := H1.out.2.1.cell 1
  change _ = some (Value.int .i64 0) at r0
  change _ = some (Value.slice none 0 0) at r1
  have f0 := H1.out.2.1.free 0
  have f1 := H1.out.2.1.free 1
  by_cases ho : othB own n d = true
  · have he : heardE own n d (chkE L) = chkE L := by unfold heardE; rw [if_pos ho]
    rw [ho]
    go_wp2_with fail
    refine (CK.out w1 (HR.out.up (hN ▸ H1.out.2.2))).mono ?_; rintro e w2 ⟨rfl, b2⟩
    have H2 := Lib.hid (And.intro (H1.out.1.below b2 (by omega)) (And.intro (H1.out.2.1.below b2 hz1) (H1.out.2.2.trans (below_of_le b2 (by omega)))))
    have hz2 : N + 1 < w2.heap.size := H2.out.2.1.lt
    clear b2 H1 t0 t1 r0 r1 f0 f1
    have t0 := H2.out.1.cell 0
    have t1 := H2.out.1.cell 1
    change _ = some (Value.int .i64 own) at t0
    change _ = some (Value.slice A n c) at t1
    have r0 := H2.out.2.1.cell 0
    have r1 := H2.out.2.1.cell 1
    change _ = some (Value.int .i64 0) at r0
    change _ = some (Value.slice none 0 0) at r1
    have f0 := H2.out.2.1.free 0
    have f1 := H2.out.2.1.free 1
    by_cases hc : chkE L = 0
    · rw [hc]
      obtain ⟨h0, h1, h2⟩ := othB_iff.1 ho
      obtain ⟨i, rfl⟩ := Int.eq_ofNat_of_zero_le h0
      have hi : i < Rs.length := by omega
      obtain ⟨x, hx⟩ : ∃ x, Rs[i]? = some x := ⟨Rs[i]'hi, List.getElem?_eq_getElem _⟩
      have bb := below_alloc_book w2 (.cells #[] 22)
      have oe := own_e1 w2 22 N (by omega)
      have hz3 : w2.heap.size < (w2.alloc (.cells #[] 22)).heap.size := by simp
      obtain ⟨W3, hW3⟩ : ∃ W3, (w2.alloc (.cells #[] 22)) = W3 := ⟨_, rfl⟩
      rw [hW3] at bb oe hz3
      have hT3 := HT.out.up (hN ▸ (H2.out.2.2.trans (below_of_le bb (by omega))) : Below w.heap.size w W3)
      have hrd := hT3.rd
      rw [hRn] at hrd
      obtain ⟨A4, c4, w4, q4, o4, g4, n4⟩ := appS W3 N (some ⟨w2.heap.size, 0, none⟩) 0 0 [] oe _ A n c (Rs.map sV) hrd (fun u hu => by obtain ⟨y, _, rfl⟩ := List.mem_map.1 hu; rfl) (by omega) (by omega)
      rw [List.nil_append, Nat.zero_add] at o4
      rw [Nat.zero_add] at q4
      have hb4 : Below (w2.heap.size) W3 w4 := (Below.refl _ W3).grown g4 (by omega) fun k hk => by cases hk; exact Nat.le_refl _
      have H4 := Lib.hid (And.intro ((H2.out.1.below bb (by omega)).below hb4 (by omega)) (And.intro ((H2.out.2.1.below bb hz2).below hb4 (by omega)) (H2.out.2.2.trans ((below_of_le bb (by omega)).trans (below_of_le hb4 (by omega))))))
      have hT4 := Lib.hid (HT.out.up (hN ▸ H4.out.2.2 : Below w.heap.size w w4))
      obtain ⟨g, cur, hA4, hbg, hW4, hcur⟩ := o4.whole (by omega)
      subst hA4
      have hci : cur[i]? = some (.slice x.A x.M.length x.c) := hcur i _ (by rw [List.getElem?_map, hx]; rfl)
      have k4 : w4.cell? ⟨g, i, none⟩ = some (.slice x.A x.M.length x.c) := by rw [hW4.cell]; exact hci
      have Q4 := Lib.hid q4
      have HO4 := Lib.hid (And.intro o4 (And.intro hW4 hcur))
      have hn4 : n ≤ c4 := o4.2.1
      have CJ := Lib.hid (fun W (h1 : MsAt W x.A x.M) (h2 : MsAt W Al L) => rjoin17_lt W x.A Al x.c cl x.M L h1 h2 (hv x.M (List.mem_map.2 ⟨x, List.mem_of_getElem? hx, rfl⟩)) hn)
      have HX := Lib.hid hx
      clear bb oe hT3 hrd q4 o4 g4 n4 hW4 hcur hci hx hb4
      have u0 := H4.out.1.cell 0
      have u1 := H4.out.1.cell 1
      change _ = some (Value.int .i64 own) at u0
      change _ = some (Value.slice A n c) at u1
      have hgN : g ≠ N ∧ g ≠ N + 1 := ⟨fun e => by subst e; exact HO4.out.2.1.ne_ H4.out.1 (by decide) rfl, fun e => by subst e; exact HO4.out.2.1.ne_ H4.out.2.1 (by decide) rfl⟩
      rw [← hW3] at Q4
      clear hW3
      have t1a := (World.cell?_alloc_some w2 ⟨N, 1, none⟩ (.cells #[] 22) (by rw [t1]; rfl)).trans t1
      generalize hxm : x.M.length = xm at *
      go_wp2_with (at_builtin; refine wpList_want (by rfl) (fun K hK => wp_append_runs _ _ _ _ _ rfl _ _ rfl rfl _ _ Q4.out (hK _ _ ?_)))
      refine (CJ.out w4 (by have := hT4.out.ms x (List.mem_of_getElem? HX.out); exact this) (HR.out.up (hN ▸ H4.out.2.2))).mono ?_; rintro e w5 ⟨A5, c5, rfl, m5, lo5, b5⟩
      have hz4 : N + 1 < w4.heap.size := H4.out.2.1.lt
      have hg4 : g < w4.heap.size := HO4.out.2.1.lt
      have hW5 := HO4.out.2.1.below b5 hg4
      have hN5 := H4.out.1.below b5 (by omega)
      have hR5 := H4.out.2.1.below b5 hz4
      have v0 := hW5.cell i
      rw [HO4.out.2.2 i (.slice x.A x.M.length x.c) (by rw [List.getElem?_map, HX.out]; rfl)] at v0
      have v1 := hW5.free i
      have HJ := Lib.hid (And.intro m5 (And.intro lo5 (And.intro b5 hW5)))
      generalize hjl : (rjoin x.M L).length = jl at *
      have N6 := hN5.far (p := ⟨g, i, none⟩) (fun e => hgN.1 e.symm) (.slice A5 jl c5)
      have R6 := hR5.far (p := ⟨g, i, none⟩) (fun e => hgN.2 e.symm) (.slice A5 jl c5)
      have N7 := N6.set_ 1 (.slice (some ⟨g, 0, none⟩) n c4)
      have R7 := R6.far (p := ⟨N, 1, none⟩) (by simp only; omega) (.slice (some ⟨g, 0, none⟩) n c4)
      have N8 := N7.far (p := ⟨N + 1, 0, none⟩) (by simp only; omega) (.int .i64 own)
      have R8 := R7.set_ 0 (.int .i64 own)
      have R9 := R8.set_ 1 (.slice (some ⟨g, 0, none⟩) n c4)
      have n60 := N6.cell 0
      have n61 := N6.cell 1
      have n7 := N6.free 1
      have n70 := N7.cell 0
      have n71 := N7.cell 1
      have s70 := R7.cell 0
      have s71 := R7.cell 1
      have s7 := R7.free 0
      have s81 := R8.cell 1
      have s8 := R8.free 1
      have r0' := R9.cell 0
      have r1' := R9.cell 1
      change _ = some (Value.int .i64 own) at n60
      change _ = some (Value.slice A n c) at n61
      change _ = some (Value.int .i64 own) at n70
      change _ = some (Value.slice (some ⟨g, 0, none⟩) n c4) at n71
      change _ = some (Value.int .i64 0) at s70
      change _ = some (Value.slice none 0 0) at s71
      change _ = some (Value.slice none 0 0) at s81
      change _ = some (Value.int .i64 own) at r0'
      change _ = some (Value.slice (some ⟨g, 0, none⟩) n c4) at r1'
      have HF := Lib.hid (show RHeard w own n A Rs (i : Int) L (.returned (.tuple #[.agg #[.int .i64 own, .slice (some ⟨g, 0, none⟩) n c4], .int .i64 0])) ((((w5.setCell ⟨g, i, none⟩ (.slice A5 jl c5)).setCell ⟨N, 1, none⟩ (.slice (some ⟨g, 0, none⟩) n c4)).setCell ⟨N + 1, 0, none⟩ (.int .i64 own)).setCell ⟨N + 1, 1, none⟩ (.slice (some ⟨g, 0, none⟩) n c4)) from by
        have hb : Below N w ((((w5.setCell ⟨g, i, none⟩ (.slice A5 jl c5)).setCell ⟨N, 1, none⟩ (.slice (some ⟨g, 0, none⟩) n c4)).setCell ⟨N + 1, 0, none⟩ (.int .i64 own)).setCell ⟨N + 1, 1, none⟩ (.slice (some ⟨g, 0, none⟩) n c4)) :=
          ((((H4.out.2.2.trans (below_of_le HJ.out.2.2.1 (by omega))).setCell (p := ⟨g, i, none⟩) (by simp only; omega) _).setCell (p := ⟨N, 1, none⟩) (Nat.le_refl _) _).setCell (p := ⟨N + 1, 0, none⟩) (by simp only; omega) _).setCell (p := ⟨N + 1, 1, none⟩) (by simp only; omega) _
        have hWg := (((HJ.out.2.2.2.set_ i (.slice A5 jl c5)).far (p := ⟨N, 1, none⟩) hgN.1 (.slice (some ⟨g, 0, none⟩) n c4)).far (p := ⟨N + 1, 0, none⟩) hgN.2 (.int .i64 own)).far (p := ⟨N + 1, 1, none⟩) hgN.2 (.slice (some ⟨g, 0, none⟩) n c4)
        have hbw : Below w.heap.size w ((((w5.setCell ⟨g, i, none⟩ (.slice A5 jl c5)).setCell ⟨N, 1, none⟩ (.slice (some ⟨g, 0, none⟩) n c4)).setCell ⟨N + 1, 0, none⟩ (.int .i64 own)).setCell ⟨N + 1, 1, none⟩ (.slice (some ⟨g, 0, none⟩) n c4)) := by rw [hN]; exact hb
        have hold := HT.out.up hbw
        have hsz := hb.size
        refine ⟨some ⟨g, 0, none⟩, c4, Rs.set i ⟨A5, c5, rjoin x.M L⟩, by rw [he, hc], by simpa using hRn, ⟨⟨by simp, fun _ => ⟨g, 0, rfl, hWg.lt, fun j u hu => ?_⟩⟩, fun y hy => ?_, fun y hy k hk => ?_⟩, ?_, hbw, fun k hk => ?_⟩
        · rw [Nat.zero_add, hWg.cell, Array.getElem?_setIfInBounds]
          rw [List.map_set, List.getElem?_set] at hu
          by_cases e : i = j
          · subst e
            rw [if_pos rfl, if_pos (by rw [List.length_map]; omega)] at hu
            have hlt : i < cur.size := by
              have := HO4.out.2.2 i (.slice x.A x.M.length x.c) (by rw [List.getElem?_map, HX.out]; rfl)
              exact (Array.getElem?_eq_some_iff.1 this).1
            rw [if_pos rfl, if_pos hlt]
            rw [← hjl]
            exact hu
          · rw [if_neg e] at hu
            rw [if_neg e]
            exact HO4.out.2.2 j u hu
        · rcases List.mem_or_eq_of_mem_set hy with hy | rfl
          · exact hold.ms y hy
          · have hm := HJ.out.1
            simp only
            by_cases hnil : rjoin x.M L = []
            · rw [hnil]
              exact ⟨rfl, fun h => absurd h (by simp)⟩
            · have hkk : ∀ k, bl A5 = some k → k < N ∨ (w4.heap.size ≤ k ∧ k < w5.heap.size) := fun k hk => by
                rcases HJ.out.2.1 k hk with h | h
                · exact .inl (hN ▸ HT.out.lo x (List.mem_of_getElem? HX.out) k h)
                · exact .inr h
              have hch : Ch (fun k => k = g ∨ k = N ∨ k = N + 1) w5 ((((w5.setCell ⟨g, i, none⟩ (.slice A5 jl c5)).setCell ⟨N, 1, none⟩ (.slice (some ⟨g, 0, none⟩) n c4)).setCell ⟨N + 1, 0, none⟩ (.int .i64 own)).setCell ⟨N + 1, 1, none⟩ (.slice (some ⟨g, 0, none⟩) n c4)) :=
                ((((Ch.set_ w5 ⟨g, i, none⟩ _).mono (fun k _ h => .inl h)).trans (Ch.set_ _ ⟨N, 1, none⟩ _) (fun k _ h => .inr (.inl h))).trans (Ch.set_ _ ⟨N + 1, 0, none⟩ _) (fun k _ h => .inr (.inr h))).trans (Ch.set_ _ ⟨N + 1, 1, none⟩ _) (fun k _ h => .inr (.inr h))
              refine MsAt.ch hm hch fun k hk h => ?_
              have := hkk k hk
              have : g < w4.heap.size := HO4.out.2.1.lt
              rcases h with h | h | h <;> omega
        · rcases List.mem_or_eq_of_mem_set hy with hy | rfl
          · exact hold.lo y hy k hk
          · have hs5 : w5.heap.size ≤ ((((w5.setCell ⟨g, i, none⟩ (.slice A5 jl c5)).setCell ⟨N, 1, none⟩ (.slice (some ⟨g, 0, none⟩) n c4)).setCell ⟨N + 1, 0, none⟩ (.int .i64 own)).setCell ⟨N + 1, 1, none⟩ (.slice (some ⟨g, 0, none⟩) n c4)).heap.size := by simp
            have hs4 := HJ.out.2.2.1.size
            rcases HJ.out.2.1 k hk with h | h
            · have := HT.out.lo x (List.mem_of_getElem? HX.out) k h
              omega
            · omega
        · unfold rtK
          rw [List.map_set]
          unfold heardK
          have hl : (List.map (fun x => x.M) Rs).length = n := by simpa using hRn
          have hg := rtK_get HX.out
          unfold rtK at hg
          rw [hl, he, hc, if_pos rfl, Int.toNat_natCast, hg]
        · rcases hk with hk | ⟨y, hy, hk⟩
          · cases hk
            exact .inr (by rw [hN]; exact hbg)
          · rcases List.mem_or_eq_of_mem_set hy with hy | rfl
            · exact .inl (.inr ⟨y, hy, hk⟩)
            · rcases HJ.out.2.1 k hk with h | h
              · exact .inl (.inr ⟨x, List.mem_of_getElem? HX.out, h⟩)
              · exact .inr (by rw [hN]; omega))
      clear N6 R6 N7 R7 N8 R8 R9 hN5 hR5 hW5 m5 lo5 b5 he ho hc
      go_wp2
      refine bodyPost_ret (v := .tuple #[.agg #[.int .i64 own, .slice (some ⟨g, 0, none⟩) n c4], .int .i64 0]) (by simp [results, Try.results63, go_sem, r0', r1']) rfl ?_
      exact HF.out
    · have hz : (chkE L != 0) = true := by simpa using hc
      have hW := (H2.out.2.1.set_ 0 (.int .i64 own)).set_ 1 (.slice A n c)
      have r0' := hW.cell 0
      have r1' := hW.cell 1
      change _ = some (Value.int .i64 own) at r0'
      change _ = some (Value.slice A n c) at r1'
      have HF := Lib.hid (show RHeard w own n A Rs d L (.returned (.tuple #[.agg #[.int .i64 own, .slice A n c], .int .i64 (chkE L)])) ((w2.setCell ⟨N + 1, 0, none⟩ (.int .i64 own)).setCell ⟨N + 1, 1, none⟩ (.slice A n c)) from by
        have hb : Below N w ((w2.setCell ⟨N + 1, 0, none⟩ (.int .i64 own)).setCell ⟨N + 1, 1, none⟩ (.slice A n c)) := (H2.out.2.2.setCell (by simp only; omega) _).setCell (by simp only; omega) _
        refine ⟨A, c, Rs, by rw [he], hRn, HT.out.up (hN ▸ hb), ?_, hN ▸ hb, fun k h => .inl h⟩
        unfold heardK
        rw [rtK_len, hRn, he, if_neg hc])
      generalize chkE L = r at *
      clear hW he ho hc
      go_wp2
      refine bodyPost_ret (v := .tuple #[.agg #[.int .i64 own, .slice A n c], .int .i64 r]) (by simp [results, Try.results63, go_sem, r0', r1']) rfl ?_
      exact HF.out
  · have he : heardE own n d (chkE L) = 16 := by unfold heardE; rw [if_neg ho]
    rw [Bool.not_eq_true] at ho
    rw [ho]
    have hW := (H1.out.2.1.set_ 0 (.int .i64 own)).set_ 1 (.slice A n c)
    have r0' := hW.cell 0
    have r1' := hW.cell 1
    change _ = some (Value.int .i64 own) at r0'
    change _ = some (Value.slice A n c) at r1'
    have HF := Lib.hid (show RHeard w own n A Rs d L (.returned (.tuple #[.agg #[.int .i64 own, .slice A n c], .int .i64 16])) ((w1.setCell ⟨N + 1, 0, none⟩ (.int .i64 own)).setCell ⟨N + 1, 1, none⟩ (.slice A n c)) from by
      have hb : Below N w ((w1.setCell ⟨N + 1, 0, none⟩ (.int .i64 own)).setCell ⟨N + 1, 1, none⟩ (.slice A n c)) := (H1.out.2.2.setCell (by simp only; omega) _).setCell (by simp only; omega) _
      refine ⟨A, c, Rs, by rw [he], hRn, HT.out.up (hN ▸ hb), ?_, hN ▸ hb, fun k h => .inl h⟩
      unfold heardK
      rw [rtK_len, hRn, he]
      rfl)
    clear hW he ho
    go_wp2
    refine bodyPost_ret (v := .tuple #[.agg #[.int .i64 own, .slice A n c], .int .i64 16]) (by simp [results, Try.results63, go_sem, r0', r1']) rfl ?_
    exact HF.out
end Go.Proofs.Ytailbppddnegoaa
