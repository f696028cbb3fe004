/- Layer 17, the document's marks: Has, Raise, Take, Join, Meet, Covers. -/
import Derived.Test.YtailbppddnegoaaY9
import Derived.WalkLawsBesides
namespace Go.Proofs.Ytailbppddnegoaa
open Go.RowKit
set_option linter.unusedVariables false
set_option maxRecDepth 100000
attribute [local go_sem ↓] Go.wp_at_zero Go.wp_at_succ

/-- A slice of marks, whosever. -/
def MsAt (w : World) (A : Option Addr) (L : List Dt) : Prop := Ds w w.heap.size A L
theorem MsAt.up {w w' : World} {A : Option Addr} {L : List Dt} (h : MsAt w A L) (b : Below w.heap.size w w') : MsAt w' A L := (Ds.below h b).more b.size
theorem MsAt.of {w : World} {B : Nat} {A : Option Addr} {L : List Dt} (h : Ds w B A L) (hB : B ≤ w.heap.size) : MsAt w A L := h.more hB
theorem MsAt.own {w : World} {base c : Nat} {e : TypeId} {A : Option Addr} {L : List Dt} (h : Own w base e 3 A L.length c (dts L)) : MsAt w A L := h.ds
/-- Marks and a word, as two results. -/
def MsB (w : World) (A0 : Option Addr) (L : List Dt) (r : Bool) (e : Ending) (w' : World) : Prop := ∃ A c, e = .returned (.tuple #[.slice A L.length c, .bool r]) ∧ MsAt w' A L ∧ (∀ k, bl A = some k → bl A0 = some k ∨ w.heap.size ≤ k) ∧ Below w.heap.size w w'
def raiseL (L : List Dt) (a : Ac) (n : Int) : List Dt := if raisedB L a n = true then setL L a n false else L
theorem raiseL_eq {L : List Dt} (h : Vw L) (a : Ac) (n : Int) : raiseL L a n = rraise L a n := by
  unfold raiseL rraise
  split
  · exact setL_eq h.1 a n
  · rfl
set_option maxHeartbeats 1000000 in
theorem rhas17_any (w : World) (A : Option Addr) (c : Nat) (L : List Dt) (x : Dt) (hr : MsAt w A L) (hn : L.length ≤ 9223372036854775807) :
    Calls Try.prog 25 #[.slice A L.length c, dtV x] w fun e w' => e = .returned (.bool (vhasB L x)) ∧ Below w.heap.size w w' := by
  obtain ⟨⟨d, i⟩, s⟩ := x
  have CR := Lib.hid (fun w => rright_any d i s w)
  have CG := Lib.hid (fun (W : World) (hW : MsAt W A L) => rget17_any W W.heap.size A c L (d, i) hW (Nat.le_refl _) hn)
  have H := Lib.hid (C3.new w d i s 27)
  have B0 := Lib.hid ((Below.refl w.heap.size w).alloc (Nat.le_refl _) (.cells #[.int .i64 d, .int .i64 i, .int .i64 s] 27))
  have HV := Lib.hid (hr.up B0.out)
  have hs0 : (w.alloc (.cells #[.int .i64 d, .int .i64 i, .int .i64 s] 27)).heap.size = w.heap.size + 1 := by simp
  have HS := Lib.hid hs0
  generalize hN : w.heap.size = N at *
  generalize L.length = n at *
  unfold dtV
  unfold dotV at CR
  unfold acV at CG
  clear hs0 hr
  cases hr : dotB d i s
  · have hz : vhasB L ((d, i), s) = false := by unfold vhasB; rw [show rightD ((d, i), s) = dotB d i s from rfl, hr]; rfl
    rw [hz]
    rw [hr] at CR
    clear hz hr
    go_enter Try.func25, Try.ntmps25
    go_wp2_with fail
    generalize (w.alloc (.cells #[.int .i64 d, .int .i64 i, .int .i64 s] 27)) = W at *
    refine wp_region_held_drew (S := (fun W => W.cell? ⟨N, 0, none⟩ = some (.int .i64 d) ∧ W.cell? ⟨N, 1, none⟩ = some (.int .i64 i) ∧ W.cell? ⟨N, 2, none⟩ = some (.int .i64 s))) (by kernel_rfl) ?_ (fun hHeld => ?_)
    · (try dsimp only); exact H.out
    refine wpAnyH_take (i := 0) (v := ?_) rfl (by kernel_rfl) (by kernel_rfl) (by kernel_rfl) (fun _ _ _ h => h) (Or.inl ⟨by rfl, ?_⟩) (by assumption) ?_
    rotate_left
    · (intro w hSw; (try dsimp only at hSw); go_simp); try with_reducible rfl
    try simp only [Act.put, List.getElem_toArray, List.getElem_cons_zero, List.setIfInBounds_toArray, List.set_cons_zero, List.set_cons_succ]
    refine wpAnyH_ready (rs := [1]) (by kernel_rfl) (by simp) ?_
    refine AllReadyH.cons rfl (fun K hK => ?_) AllReadyH.nil
    go_simp
    refine (CR.out _).mono ?_; rintro e w1 ⟨rfl, b1⟩
    go_wp2_with fail
    refine hK.out _ _ ?_ (fun hHeld => ?_)
    · (try dsimp only); exact C3.up hHeld (show N < W.heap.size by have := HS.out; omega) b1
    clear hK K
    try simp only [Act.put, List.getElem_toArray, List.getElem_cons_zero, List.getElem_cons_succ, List.setIfInBounds_toArray, List.set_cons_zero, List.set_cons_succ]
    refine wpAnyH_take (i := 2) (v := ?_) rfl (by kernel_rfl) (by kernel_rfl) (by kernel_rfl) (fun _ _ _ h => h) (Or.inl ⟨by rfl, ?_⟩) (by assumption) ?_
    rotate_left
    · (intro w hSw; (try dsimp only at hSw); go_simp); try with_reducible rfl
    try simp only [Act.put, List.getElem_toArray, List.getElem_cons_zero, List.getElem_cons_succ, List.setIfInBounds_toArray, List.set_cons_zero, List.set_cons_succ]
    refine wpAnyH_take (i := 3) (v := undef) rfl (by kernel_rfl) (by kernel_rfl) (by kernel_rfl) (fun _ _ _ h => h) (Or.inr ⟨by rfl, rfl⟩) (by assumption) ?_
    try simp only [Act.put, List.getElem_toArray, List.getElem_cons_zero, List.getElem_cons_succ, List.setIfInBounds_toArray, List.set_cons_zero, List.set_cons_succ]
    refine wpAnyH_take (i := 4) (v := undef) rfl (by kernel_rfl) (by kernel_rfl) (by kernel_rfl) (fun _ _ _ h => h) (Or.inr ⟨by rfl, rfl⟩) (by assumption) ?_
    try simp only [Act.put, List.getElem_toArray, List.getElem_cons_zero, List.getElem_cons_succ, List.setIfInBounds_toArray, List.set_cons_zero, List.set_cons_succ]
    refine wpAnyH_take (i := 5) (v := undef) rfl (by kernel_rfl) (by kernel_rfl) (by kernel_rfl) (fun _ _ _ h => h) (Or.inr ⟨by rfl, rfl⟩) (by assumption) ?_
    try simp only [Act.put, List.getElem_toArray, List.getElem_cons_zero, List.getElem_cons_succ, List.setIfInBounds_toArray, List.set_cons_zero, List.set_cons_succ]
    refine wpAnyH_take (i := 6) (v := undef) rfl (by kernel_rfl) (by kernel_rfl) (by kernel_rfl) (fun _ _ _ h => h) (Or.inr ⟨by rfl, rfl⟩) (by assumption) ?_
    try simp only [Act.put, List.getElem_toArray, List.getElem_cons_zero, List.getElem_cons_succ, List.setIfInBounds_toArray, List.set_cons_zero, List.set_cons_succ]
    refine wpAnyH_take (i := 7) (v := undef) rfl (by kernel_rfl) (by kernel_rfl) (by kernel_rfl) (fun _ _ _ h => h) (Or.inr ⟨by rfl, rfl⟩) (by assumption) ?_
    try simp only [Act.put, List.getElem_toArray, List.getElem_cons_zero, List.getElem_cons_succ, List.setIfInBounds_toArray, List.set_cons_zero, List.set_cons_succ]
    refine wpAnyH_take (i := 8) (v := undef) rfl (by kernel_rfl) (by kernel_rfl) (by kernel_rfl) (fun _ _ _ h => h) (Or.inr ⟨by rfl, rfl⟩) (by assumption) ?_
    try simp only [Act.put, List.getElem_toArray, List.getElem_cons_zero, List.getElem_cons_succ, List.setIfInBounds_toArray, List.set_cons_zero, List.set_cons_succ]
    refine wpAnyH_take (i := 9) (v := undef) rfl (by kernel_rfl) (by kernel_rfl) (by kernel_rfl) (fun _ _ _ h => h) (Or.inr ⟨by rfl, rfl⟩) (by assumption) ?_
    try simp only [Act.put, List.getElem_toArray, List.getElem_cons_zero, List.getElem_cons_succ, List.setIfInBounds_toArray, List.set_cons_zero, List.set_cons_succ]
    refine wpAnyH_take (i := 10) (v := ?_) rfl (by kernel_rfl) (by kernel_rfl) (by kernel_rfl) (fun _ _ _ h => h) (Or.inl ⟨by rfl, ?_⟩) (by assumption) ?_
    rotate_left
    · (intro w hSw; (try dsimp only at hSw); go_simp); try with_reducible rfl
    try simp only [Act.put, List.getElem_toArray, List.getElem_cons_zero, List.getElem_cons_succ, List.setIfInBounds_toArray, List.set_cons_zero, List.set_cons_succ]
    refine wpAnyH_take (i := 11) (v := ?_) rfl (by kernel_rfl) (by kernel_rfl) (by kernel_rfl) (fun _ _ _ h => h) (Or.inl ⟨by rfl, ?_⟩) (by assumption) ?_
    rotate_left
    · (intro w hSw; (try dsimp only at hSw); go_simp); try with_reducible rfl
    try simp only [Act.put, List.getElem_toArray, List.getElem_cons_zero, List.getElem_cons_succ, List.setIfInBounds_toArray, List.set_cons_zero, List.set_cons_succ]
    refine wpAnyH_done (by kernel_rfl) ?_ _
    go_wp2
    go_ret
    exact ⟨rfl, B0.out.drew.trans (below_of_le b1 (show N ≤ W.heap.size by have := HS.out; omega))⟩
  · have hz : vhasB L ((d, i), s) = decide (s ≤ mget L (d, i)) := by unfold vhasB; rw [show rightD ((d, i), s) = dotB d i s from rfl, hr]; rfl
    rw [hz]
    rw [hr] at CR
    generalize mget L (d, i) = q at *
    clear hz hr
    go_enter Try.func25, Try.ntmps25
    go_wp2_with fail
    generalize (w.alloc (.cells #[.int .i64 d, .int .i64 i, .int .i64 s] 27)) = W at *
    refine wp_region_held_drew (S := (fun W => W.cell? ⟨N, 0, none⟩ = some (.int .i64 d) ∧ W.cell? ⟨N, 1, none⟩ = some (.int .i64 i) ∧ W.cell? ⟨N, 2, none⟩ = some (.int .i64 s))) (by kernel_rfl) ?_ (fun hHeld => ?_)
    · (try dsimp only); exact H.out
    refine wpAnyH_take (i := 0) (v := ?_) rfl (by kernel_rfl) (by kernel_rfl) (by kernel_rfl) (fun _ _ _ h => h) (Or.inl ⟨by rfl, ?_⟩) (by assumption) ?_
    rotate_left
    · (intro w hSw; (try dsimp only at hSw); go_simp); try with_reducible rfl
    try simp only [Act.put, List.getElem_toArray, List.getElem_cons_zero, List.setIfInBounds_toArray, List.set_cons_zero, List.set_cons_succ]
    refine wpAnyH_ready (rs := [1]) (by kernel_rfl) (by simp) ?_
    refine AllReadyH.cons rfl (fun K hK => ?_) AllReadyH.nil
    go_simp
    refine (CR.out _).mono ?_; rintro e w1 ⟨rfl, b1⟩
    go_wp2_with fail
    refine hK.out _ _ ?_ (fun hHeld => ?_)
    · (try dsimp only); exact C3.up hHeld (show N < W.heap.size by have := HS.out; omega) b1
    clear hK K
    try simp only [Act.put, List.getElem_toArray, List.getElem_cons_zero, List.getElem_cons_succ, List.setIfInBounds_toArray, List.set_cons_zero, List.set_cons_succ]
    have hs1 : N < w1.heap.size := by have := HS.out; have := b1.size; simp only [World.drew] at this; omega
    refine wpAnyH_take (i := 2) (v := ?_) rfl (by kernel_rfl) (by kernel_rfl) (by kernel_rfl) (fun _ _ _ h => h) (Or.inl ⟨by rfl, ?_⟩) (by assumption) ?_
    rotate_left
    · (intro w hSw; (try dsimp only at hSw); go_simp); try with_reducible rfl
    try simp only [Act.put, List.getElem_toArray, List.getElem_cons_zero, List.getElem_cons_succ, List.setIfInBounds_toArray, List.set_cons_zero, List.set_cons_succ]
    refine wpAnyH_take (i := 3) (v := ?_) rfl (by kernel_rfl) (by kernel_rfl) (by kernel_rfl) (fun _ _ _ h => h) (Or.inl ⟨by rfl, ?_⟩) (by assumption) ?_
    rotate_left
    · (intro w hSw; (try dsimp only at hSw); go_simp); try with_reducible rfl
    try simp only [Act.put, List.getElem_toArray, List.getElem_cons_zero, List.getElem_cons_succ, List.setIfInBounds_toArray, List.set_cons_zero, List.set_cons_succ]
    refine wpAnyH_take (i := 4) (v := ?_) rfl (by kernel_rfl) (by kernel_rfl) (by kernel_rfl) (fun _ _ _ h => h) (Or.inl ⟨by rfl, ?_⟩) (by assumption) ?_
    rotate_left
    · (intro w hSw; (try dsimp only at hSw); go_simp); try with_reducible rfl
    try simp only [Act.put, List.getElem_toArray, List.getElem_cons_zero, List.getElem_cons_succ, List.setIfInBounds_toArray, List.set_cons_zero, List.set_cons_succ]
    refine wpAnyH_take (i := 5) (v := ?_) rfl (by kernel_rfl) (by kernel_rfl) (by kernel_rfl) (fun _ _ _ h => h) (Or.inl ⟨by rfl, ?_⟩) (by assumption) ?_
    rotate_left
    · (intro w hSw; (try dsimp only at hSw); go_simp); try with_reducible rfl
    try simp only [Act.put, List.getElem_toArray, List.getElem_cons_zero, List.getElem_cons_succ, List.setIfInBounds_toArray, List.set_cons_zero, List.set_cons_succ]
    refine wpAnyH_take (i := 7) (v := ?_) rfl (by kernel_rfl) (by kernel_rfl) (by kernel_rfl) (fun _ _ _ h => h) (Or.inl ⟨by rfl, ?_⟩) (by assumption) ?_
    rotate_left
    · (intro w hSw; (try dsimp only at hSw); go_simp); try with_reducible rfl
    try simp only [Act.put, List.getElem_toArray, List.getElem_cons_zero, List.getElem_cons_succ, List.setIfInBounds_toArray, List.set_cons_zero, List.set_cons_succ]
    refine wpAnyH_take (i := 8) (v := ?_) rfl (by kernel_rfl) (by kernel_rfl) (by kernel_rfl) (fun _ _ _ h => h) (Or.inl ⟨by rfl, ?_⟩) (by assumption) ?_
    rotate_left
    · (intro w hSw; (try dsimp only at hSw); go_simp); try with_reducible rfl
    try simp only [Act.put, List.getElem_toArray, List.getElem_cons_zero, List.getElem_cons_succ, List.setIfInBounds_toArray, List.set_cons_zero, List.set_cons_succ]
    refine wpAnyH_ready (rs := [6]) (by kernel_rfl) (by simp) ?_
    refine AllReadyH.cons rfl (fun K hK => ?_) AllReadyH.nil
    go_simp
    refine (CG.out _ ((MsAt.up HV.out (Below.drew (Below.refl _ _))).up b1)).mono ?_; rintro e w2 ⟨rfl, b2⟩
    go_wp2_with fail
    refine hK.out _ _ ?_ (fun hHeld => ?_)
    · (try dsimp only); exact C3.up hHeld hs1 b2
    clear hK K
    try simp only [Act.put, List.getElem_toArray, List.getElem_cons_zero, List.getElem_cons_succ, List.setIfInBounds_toArray, List.set_cons_zero, List.set_cons_succ]
    refine wpAnyH_take (i := 9) (v := ?_) rfl (by kernel_rfl) (by kernel_rfl) (by kernel_rfl) (fun _ _ _ h => h) (Or.inl ⟨by rfl, ?_⟩) (by assumption) ?_
    rotate_left
    · (intro w hSw; (try dsimp only at hSw); go_simp); try with_reducible rfl
    try simp only [Act.put, List.getElem_toArray, List.getElem_cons_zero, List.getElem_cons_succ, List.setIfInBounds_toArray, List.set_cons_zero, List.set_cons_succ]
    refine wpAnyH_take (i := 10) (v := ?_) rfl (by kernel_rfl) (by kernel_rfl) (by kernel_rfl) (fun _ _ _ h => h) (Or.inl ⟨by rfl, ?_⟩) (by assumption) ?_
    rotate_left
    · (intro w hSw; (try dsimp only at hSw); go_simp); try with_reducible rfl
    try simp only [Act.put, List.getElem_toArray, List.getElem_cons_zero, List.getElem_cons_succ, List.setIfInBounds_toArray, List.set_cons_zero, List.set_cons_succ]
    refine wpAnyH_take (i := 11) (v := ?_) rfl (by kernel_rfl) (by kernel_rfl) (by kernel_rfl) (fun _ _ _ h => h) (Or.inl ⟨by rfl, ?_⟩) (by assumption) ?_
    rotate_left
    · (intro w hSw; (try dsimp only at hSw); go_simp); try with_reducible rfl
    try simp only [Act.put, List.getElem_toArray, List.getElem_cons_zero, List.getElem_cons_succ, List.setIfInBounds_toArray, List.set_cons_zero, List.set_cons_succ]
    refine wpAnyH_done (by kernel_rfl) ?_ _
    go_wp2
    go_ret
    exact ⟨rfl, (B0.out.drew.trans (below_of_le b1 (show N ≤ W.heap.size by have := HS.out; omega))).trans (below_of_le b2 (by omega))⟩
set_option maxHeartbeats 1000000 in
theorem rraise17_any (w : World) (A : Option Addr) (c : Nat) (L : List Dt) (a : Ac) (n : Int) (hr : MsAt w A L) (hn : L.length ≤ 100000000) :
    Calls Try.prog 18 #[.slice A L.length c, acV a, .int .i64 n] w (MsB w A (raiseL L a n) (raisedB L a n)) := by
  obtain ⟨d, i⟩ := a
  have CR := Lib.hid (fun w => rright_any d i n w)
  have CG := Lib.hid (fun (W : World) (hW : MsAt W A L) => rget17_any W W.heap.size A c L (d, i) hW (Nat.le_refl _) (by omega))
  have CS := Lib.hid (fun (W : World) (hW : MsAt W A L) => rset17_any W W.heap.size A c L (d, i) n hW (Nat.le_refl _) hn)
  have hrd : rightD ((d, i), n) = dotB d i n := rfl
  have hrb : raisedB L (d, i) n = (dotB d i n && decide (mget L (d, i) < n)) := rfl
  have hrl : raiseL L (d, i) n = if raisedB L (d, i) n = true then setL L (d, i) n false else L := rfl
  have B0 := Lib.hid ((Below.refl w.heap.size w).alloc (Nat.le_refl _) (.cells #[.int .i64 d, .int .i64 i] 25))
  have HW := Lib.hid (Whole.new w 25 #[.int .i64 d, .int .i64 i])
  have HV := Lib.hid (hr.up B0.out)
  have HO := Lib.hid hr
  have hs0 : (w.alloc (.cells #[.int .i64 d, .int .i64 i] 25)).heap.size = w.heap.size + 1 := by simp
  have HS := Lib.hid hs0
  generalize hq : mget L (d, i) = q at *
  generalize hT : setL L (d, i) n false = T at *
  have HL := Lib.hid (rfl : L.length = L.length)
  generalize hlen : L.length = m at *
  have HLen := Lib.hid hlen
  generalize hN : w.heap.size = N at *
  unfold acV
  unfold dotV at CR
  unfold acV at CG CS
  rw [hrl, hrb]
  clear hs0 hr hrd hrb hrl hq hT hlen HL
  cases hr : dotB d i n
  · have HE := Lib.hid (fun (W : World) (b : Below N w W) => (show MsB w A L false (.returned (.tuple #[.slice A m c, .bool false])) W from ⟨A, c, by rw [HLen.out], HO.out.up (by rw [hN]; exact b), fun k h => .inl h, by rw [hN]; exact b⟩))
    rw [hr] at CR
    simp only [Bool.false_and, Bool.false_eq_true, if_false]
    clear hr
    go_enter Try.func18, Try.ntmps18
    have hW := HW.out
    go_wp2_with fail
    refine (CR.out _).mono ?_; rintro e w1 ⟨rfl, b1⟩
    go_wp2
    go_ret2
    exact HE.out _ (B0.out.trans (below_of_le b1 (by have := HS.out; omega)))
  · rw [hr] at CR
    simp only [Bool.true_and]
    clear hr
    by_cases hlt : q < n
    · have hd : decide (q < n) = true := decide_eq_true hlt
      have hd2 : decide (n ≤ q) = false := decide_eq_false (by omega)
      have HE := Lib.hid (fun (W : World) (b : Below N w W) (A' : Option Addr) (c' : Nat) (h : MsAt W A' T) (hk : ∀ k, bl A' = some k → N ≤ k) => (show MsB w A T true (.returned (.tuple #[.slice A' T.length c', .bool true])) W from ⟨A', c', rfl, h, fun k hh => .inr (by rw [hN]; exact hk k hh), by rw [hN]; exact b⟩))
      simp only [hd, if_true]
      go_enter Try.func18, Try.ntmps18
      go_wp2_with fail
      refine (CR.out _).mono ?_; rintro e w1 ⟨rfl, b1⟩
      have hW1 := (HW.out.below b1 (by have := HS.out; omega))
      have k0 : w1.cell? ⟨N, 0, none⟩ = some (.int .i64 d) := by rw [hW1.cell]; rfl
      have k1 : w1.cell? ⟨N, 1, none⟩ = some (.int .i64 i) := by rw [hW1.cell]; rfl
      have HV1 := Lib.hid (And.intro (HV.out.up b1) (And.intro hW1 (B0.out.trans (below_of_le b1 (by have := HS.out; omega)))))
      clear b1 hW1
      go_wp2_with fail
      refine (CG.out _ HV1.out.1).mono ?_; rintro e w2 ⟨rfl, b2⟩
      have hW2 := (HV1.out.2.1.below b2 HV1.out.2.1.lt)
      have l0 : w2.cell? ⟨N, 0, none⟩ = some (.int .i64 d) := by rw [hW2.cell]; rfl
      have l1 : w2.cell? ⟨N, 1, none⟩ = some (.int .i64 i) := by rw [hW2.cell]; rfl
      have HV2 := Lib.hid (And.intro (HV1.out.1.up b2) (HV1.out.2.2.trans (below_of_le b2 (Nat.le_of_lt HV1.out.2.1.lt))))
      have hN2 : N ≤ w2.heap.size := Nat.le_of_lt hW2.lt
      clear b2 hW2 k0 k1
      go_wp2_with fail
      refine (CS.out _ HV2.out.1).mono ?_; rintro e w3 ⟨A3, c3, rfl, o3, b3⟩
      have HF := Lib.hid (HE.out w3 (HV2.out.2.trans (below_of_le b3 hN2)) A3 c3 (MsAt.own o3) (fun k hk => Nat.le_trans hN2 (o3.bl_lo k hk)))
      clear o3 b3
      go_wp2
      go_ret2
      exact HF.out
    · have hd : decide (q < n) = false := decide_eq_false hlt
      have hd2 : decide (n ≤ q) = true := decide_eq_true (by omega)
      have HE := Lib.hid (fun (W : World) (b : Below N w W) => (show MsB w A L false (.returned (.tuple #[.slice A m c, .bool false])) W from ⟨A, c, by rw [HLen.out], HO.out.up (by rw [hN]; exact b), fun k h => .inl h, by rw [hN]; exact b⟩))
      simp only [hd, Bool.false_eq_true, if_false]
      go_enter Try.func18, Try.ntmps18
      go_wp2_with fail
      refine (CR.out _).mono ?_; rintro e w1 ⟨rfl, b1⟩
      have hW1 := (HW.out.below b1 (by have := HS.out; omega))
      have k0 : w1.cell? ⟨N, 0, none⟩ = some (.int .i64 d) := by rw [hW1.cell]; rfl
      have k1 : w1.cell? ⟨N, 1, none⟩ = some (.int .i64 i) := by rw [hW1.cell]; rfl
      have HV1 := Lib.hid (And.intro (HV.out.up b1) (And.intro hW1.lt (B0.out.trans (below_of_le b1 (by have := HS.out; omega)))))
      clear b1 hW1
      go_wp2_with fail
      refine (CG.out _ HV1.out.1).mono ?_; rintro e w2 ⟨rfl, b2⟩
      have HF := Lib.hid (HE.out w2 (HV1.out.2.2.trans (below_of_le b2 (Nat.le_of_lt HV1.out.2.1))))
      clear b2
      go_wp2
      go_ret2
      exact HF.out
end Go.Proofs.Ytailbppddnegoaa
