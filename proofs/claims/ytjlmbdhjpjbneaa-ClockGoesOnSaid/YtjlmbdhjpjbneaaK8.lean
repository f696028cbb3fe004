/- Layer 19 (clock): the walk of the law ClockPlays. -/
import Derived.Test.YtjlmbdhjpjbneaaK7
import Derived.Test.YtjlmbdhjpjbneaaO6
import Derived.Deep.DeepCutAuto
import Derived.BigRegion
namespace Go.Proofs.Ytjlmbdhjpjbneaa
open Go.RowKit
set_option linter.unusedVariables false
set_option maxRecDepth 100000

/-- The program's clock and the document's, alike. -/
def Pair (n m g : Nat) (W a b d : Int) (w w' : World) : Prop :=
  Below n w w' ∧ Whole w' m 53 #[.int .i64 W, .int .i64 a, .int .i64 b, .int .i64 d] ∧ Ck w' g W a b d ∧ w'.cell? ⟨m, 0, none⟩ = some (.int .i64 W) ∧ w'.cell? ⟨m, 1, none⟩ = some (.int .i64 a) ∧ w'.cell? ⟨m, 2, none⟩ = some (.int .i64 b) ∧ w'.cell? ⟨m, 3, none⟩ = some (.int .i64 d)
theorem Pair.step {n m g : Nat} {W a b d : Int} {w w1 w2 : World} (h : Pair n m g W a b d w w1) (b' : Below w1.heap.size w1 w2) (hn : n ≤ w1.heap.size) : Pair n m g W a b d w w2 := by
  obtain ⟨h0, h1, h2, h3, h4, h5, h6⟩ := h
  have hm := h1.lt
  refine ⟨h0.trans (below_of_le b' hn), h1.below b' hm, Whole.below h2 b' (Whole.lt h2), ?_, ?_, ?_, ?_⟩
  all_goals
    rw [b'.cell (by simp only; omega)]
    assumption
theorem wall_keep {n m g : Nat} {W a b d : Int} {w w1 : World} (h : Pair n m g W a b d w w1) : Calls Try.prog 37 #[gp g] w1 fun e w' => e = .returned (.int .i64 W) ∧ Pair n m g W a b d w w' :=
  (wall_any W a b d w1 g h.2.2.1).mono fun e w' ⟨h1, h2⟩ => ⟨h1, h2 ▸ h⟩
theorem last_keep {n m g : Nat} {W a b d : Int} {w w1 : World} (hn : n ≤ m) (h : Pair n m g W a b d w w1) : Calls Try.prog 38 #[gp g] w1 fun e w' => e = .returned (stV a b d) ∧ Pair n m g W a b d w w' :=
  (last_any W a b d w1 g h.2.2.1).mono fun e w' ⟨h1, h2⟩ => ⟨h1, h.step h2 (by have := h.2.1.lt; omega)⟩
/-- Behind a step of the law: its box, the clocks of both. -/
def Seg (N m : Nat) (w : World) (W a b d A B C : Int) (x y : Value) (wx : World) : Prop :=
  ∃ r, x = .pointer (some ⟨r, 0, none⟩) ∧ y = .bool true ∧ r ≠ N ∧ r ≠ m ∧ Whole wx r 53 #[.int .i64 A, .int .i64 B, .int .i64 C, .int .i64 d] ∧ Ck wx N A B C d ∧ Whole wx m 53 #[.int .i64 W, .int .i64 a, .int .i64 b, .int .i64 d] ∧ Below N w wx
theorem seg1 {N m : Nat} {w wr w3 : World} {W a b d A B C : Int} (hNr : N < wr.heap.size) (hmN : m ≠ N) (hM : Whole wr m 53 #[.int .i64 W, .int .i64 a, .int .i64 b, .int .i64 d]) (hB : Below N w wr) (hk3 : Ck w3 N A B C d) (hc3 : Ch (fun k => k = N) wr.drew w3) :
    Seg N m w W a b d A B C (.pointer (some ⟨w3.heap.size, 0, none⟩)) (.bool true) (w3.alloc (.cells #[.int .i64 A, .int .i64 B, .int .i64 C, .int .i64 d] 53)) := by
  have hs : wr.heap.size ≤ w3.heap.size := hc3.size
  have hm := hM.lt
  refine ⟨w3.heap.size, rfl, rfl, by omega, by omega, Whole.new _ _ _, Whole.alloc hk3 _, (hM.drew.ch hc3 hmN).alloc _, ?_⟩
  exact (hB.drew.trans (hc3.below (by intro k hk h; omega) (by show N ≤ wr.heap.size; omega))).alloc (by omega) _
theorem seg2 {N m : Nat} {w wr w3 : World} {W a b d A B C : Int} (hNr : N < wr.heap.size) (hmN : m ≠ N) (hM : Whole wr m 53 #[.int .i64 W, .int .i64 a, .int .i64 b, .int .i64 d]) (hB : Below N w wr)
    (hk3 : Ck w3 N A B C d) (hc3 : Ch (fun k => k = N) (wr.drew.alloc (.cells #[.int .i64 0, .int .i64 0, .int .i64 0, .int .i64 0] 53)) w3) (z3 : Whole w3 wr.heap.size 53 #[.int .i64 0, .int .i64 0, .int .i64 0, .int .i64 0]) :
    Seg N m w W a b d A B C (.pointer (some ⟨wr.heap.size, 0, none⟩)) (.bool true) ((((w3.setCell ⟨wr.heap.size, 0, none⟩ (.int .i64 A)).setCell ⟨wr.heap.size, 1, none⟩ (.int .i64 B)).setCell ⟨wr.heap.size, 2, none⟩ (.int .i64 C)).setCell ⟨wr.heap.size, 3, none⟩ (.int .i64 d)) := by
  have hm := hM.lt
  have hmr : m ≠ wr.heap.size := by omega
  have hNn : N ≠ wr.heap.size := by omega
  refine ⟨wr.heap.size, rfl, rfl, by omega, by omega, (((z3.set_ 0 (.int .i64 A)).set_ 1 (.int .i64 B)).set_ 2 (.int .i64 C)).set_ 3 (.int .i64 d), ?_, ?_, ?_⟩
  · exact (((Whole.far hk3 (p := ⟨wr.heap.size, 0, none⟩) hNn (.int .i64 A)).far (p := ⟨wr.heap.size, 1, none⟩) hNn (.int .i64 B)).far (p := ⟨wr.heap.size, 2, none⟩) hNn (.int .i64 C)).far (p := ⟨wr.heap.size, 3, none⟩) hNn (.int .i64 d)
  · exact (((((hM.drew.alloc _).ch hc3 hmN).far (p := ⟨wr.heap.size, 0, none⟩) hmr (.int .i64 A)).far (p := ⟨wr.heap.size, 1, none⟩) hmr (.int .i64 B)).far (p := ⟨wr.heap.size, 2, none⟩) hmr (.int .i64 C)).far (p := ⟨wr.heap.size, 3, none⟩) hmr (.int .i64 d)
  · have h0 : Below N w w3 := (hB.drew.alloc (by show N ≤ wr.heap.size; omega) _).trans (hc3.below (by intro k hk h; omega) (by simp; show N ≤ wr.heap.size + 1; omega))
    exact (((h0.setCell (p := ⟨wr.heap.size, 0, none⟩) (by simp only; omega) (.int .i64 A)).setCell (p := ⟨wr.heap.size, 1, none⟩) (by simp only; omega) (.int .i64 B)).setCell (p := ⟨wr.heap.size, 2, none⟩) (by simp only; omega) (.int .i64 C)).setCell (p := ⟨wr.heap.size, 3, none⟩) (by simp only; omega) (.int .i64 d)
set_option maxHeartbeats 4000000 in
theorem clockPlays_in (w : World) (d : Int) (hd : inB d 63 = true) (A : Option Addr) (n c : Nat) (f : Nat → Nat → Int) (hr : Recs w w.heap.size 5 A n f) (hf : ∀ i j, i64B (f i j)) (hn : n ≤ 100) :
    Calls Try.prog 5 #[.int .i64 d, .slice A n c] w fun e w' => e = .returned (.bool true) ∧ Below w.heap.size w w' := by
  have C0 := Lib.hid (cnew_yes d hd w)
  have C1 := Lib.hid (fun k m x y z W a b hi hm w1 h => lstep_any k m x y z W a b d hi hm w1 w.heap.size h)
  have C9 := Lib.hid awake19_any
  have hdd : 0 ≤ d ∧ d ≤ 63 := by simpa [inB] using hd
  have t1 : ¬ d < 0 := by omega
  have t2 : ¬ 63 < d := by omega
  have hI0 : Inv 0 0 0 d := ⟨by unfold wallB; omega, by unfold wallB; omega, by omega, hd⟩
  clear hd hdd
  generalize hN : w.heap.size = N at *
  unfold gp ckV spV at *
  go_enter Try.func5, Try.ntmps5
  go_wp2_with fail
  refine (C0.out).mono ?_; rintro e w1 ⟨rfl, k1, b1⟩
  have K1 := Lib.hid k1
  have B1 := Lib.hid b1
  clear k1 b1 C0
  have hz0 := K1.out.lt
  have K2 := Lib.hid (show Ck _ N 0 0 0 d from Whole.alloc K1.out (.cells #[.int .i64 0, .int .i64 0, .int .i64 0, .int .i64 d] 53))
  have M2 := Lib.hid (Whole.new w1 53 #[.int .i64 0, .int .i64 0, .int .i64 0, .int .i64 d])
  have B2 := Lib.hid (B1.out.alloc (by omega) (.cells #[.int .i64 0, .int .i64 0, .int .i64 0, .int .i64 d] 53))
  clear K1 B1
  go_wp2_with fail
  generalize (w1.alloc (.cells #[.int .i64 0, .int .i64 0, .int .i64 0, .int .i64 d] 53)) = w2 at *
  generalize w1.heap.size = m at *
  have hmN : m ≠ N := by omega
  go_loopw [8] (fun i wr => ∃ (j : Nat) (W a b : Int), j ≤ n ∧ i = .int .i64 j ∧ Inv W a b d ∧ Ck wr N W a b d ∧ Whole wr m 53 #[.int .i64 W, .int .i64 a, .int .i64 b, .int .i64 d] ∧ Below N w wr) (fun i _ => n - (intOf i).toNat)
  case atStart => exact ⟨0, 0, 0, 0, by omega, rfl, hI0, K2.out, M2.out, B2.out⟩
  case round =>
    obtain ⟨j, W, a, b, hj, rfl, hI, hK, hM, hB⟩ := hrel
    clear hI0 K2 M2 B2
    have hR := hr.below hB
    by_cases hlt : j < n
    · obtain ⟨b0, o0, rfl, hb0, hcell⟩ := hR (by omega)
      have hml := hM.lt
      have hNl := Whole.lt hK
      have s0 : wr.cell? ⟨b0, o0 + j * 5, none⟩ = some (.int .i64 (f j 0)) := hcell j hlt 0 (by omega)
      have s0' : (wr.alloc (.cells #[.int .i64 0, .int .i64 0, .int .i64 0, .int .i64 0] 53)).cell? ⟨b0, o0 + j * 5, none⟩ = some (.int .i64 (f j 0)) := by rw [World.cell?_alloc_lt _ _ _ (by simp only; omega)]; exact s0
      have s1 : wr.cell? ⟨b0, o0 + j * 5 + 1, none⟩ = some (.int .i64 (f j 1)) := hcell j hlt 1 (by omega)
      have s1' : (wr.alloc (.cells #[.int .i64 0, .int .i64 0, .int .i64 0, .int .i64 0] 53)).cell? ⟨b0, o0 + j * 5 + 1, none⟩ = some (.int .i64 (f j 1)) := by rw [World.cell?_alloc_lt _ _ _ (by simp only; omega)]; exact s1
      have s2 : wr.cell? ⟨b0, o0 + j * 5 + 2, none⟩ = some (.int .i64 (f j 2)) := hcell j hlt 2 (by omega)
      have s2' : (wr.alloc (.cells #[.int .i64 0, .int .i64 0, .int .i64 0, .int .i64 0] 53)).cell? ⟨b0, o0 + j * 5 + 2, none⟩ = some (.int .i64 (f j 2)) := by rw [World.cell?_alloc_lt _ _ _ (by simp only; omega)]; exact s2
      have s3 : wr.cell? ⟨b0, o0 + j * 5 + 3, none⟩ = some (.int .i64 (f j 3)) := hcell j hlt 3 (by omega)
      have s3' : (wr.alloc (.cells #[.int .i64 0, .int .i64 0, .int .i64 0, .int .i64 0] 53)).cell? ⟨b0, o0 + j * 5 + 3, none⟩ = some (.int .i64 (f j 3)) := by rw [World.cell?_alloc_lt _ _ _ (by simp only; omega)]; exact s3
      have s4 : wr.cell? ⟨b0, o0 + j * 5 + 4, none⟩ = some (.int .i64 (f j 4)) := hcell j hlt 4 (by omega)
      have s4' : (wr.alloc (.cells #[.int .i64 0, .int .i64 0, .int .i64 0, .int .i64 0] 53)).cell? ⟨b0, o0 + j * 5 + 4, none⟩ = some (.int .i64 (f j 4)) := by rw [World.cell?_alloc_lt _ _ _ (by simp only; omega)]; exact s4
      have q0 : wr.cell? ⟨m, 0, none⟩ = some (.int .i64 W) := by rw [hM.cell]; rfl
      have q0' : (wr.alloc (.cells #[.int .i64 0, .int .i64 0, .int .i64 0, .int .i64 0] 53)).cell? ⟨m, 0, none⟩ = some (.int .i64 W) := by rw [World.cell?_alloc_lt _ _ _ (by simp only; omega)]; exact q0
      have q1 : wr.cell? ⟨m, 1, none⟩ = some (.int .i64 a) := by rw [hM.cell]; rfl
      have q1' : (wr.alloc (.cells #[.int .i64 0, .int .i64 0, .int .i64 0, .int .i64 0] 53)).cell? ⟨m, 1, none⟩ = some (.int .i64 a) := by rw [World.cell?_alloc_lt _ _ _ (by simp only; omega)]; exact q1
      have q2 : wr.cell? ⟨m, 2, none⟩ = some (.int .i64 b) := by rw [hM.cell]; rfl
      have q2' : (wr.alloc (.cells #[.int .i64 0, .int .i64 0, .int .i64 0, .int .i64 0] 53)).cell? ⟨m, 2, none⟩ = some (.int .i64 b) := by rw [World.cell?_alloc_lt _ _ _ (by simp only; omega)]; exact q2
      have q3 : wr.cell? ⟨m, 3, none⟩ = some (.int .i64 d) := by rw [hM.cell]; rfl
      have q3' : (wr.alloc (.cells #[.int .i64 0, .int .i64 0, .int .i64 0, .int .i64 0] 53)).cell? ⟨m, 3, none⟩ = some (.int .i64 d) := by rw [World.cell?_alloc_lt _ _ _ (by simp only; omega)]; exact q3
      have HR := Lib.hid hR
      have HK := Lib.hid hK
      have HM := Lib.hid hM
      have HB := Lib.hid hB
      clear hR hK hM hB hcell hr
      generalize hS : stp (f j 0) (f j 1) (f j 2) (f j 3) (f j 4) W a b d = S at *
      go_upto_region 10 with (fail)
      go_cut [9, 10] from 38 to 70 (fun x y wx => Seg N m w W a b d S.1 S.2.1 S.2.2 x y wx)
      case first =>
        have D1 := Lib.hid (show Ck wr.drew N W a b d from Whole.drew HK.out)
        have D2 := Lib.hid (show Ck (wr.drew.alloc (.cells #[.int .i64 0, .int .i64 0, .int .i64 0, .int .i64 0] 53)) N W a b d from Whole.alloc (Whole.drew HK.out) _)
        have C2' := fun w1 h => C1.out (f j 0) (f j 1) (f j 2) (f j 3) (f j 4) W a b hI (hf j 1) w1 h
        simp only [hS] at C2'
        have C2 := Lib.hid C2'
        clear C2'
        have D3 := Lib.hid (Whole.drew (Whole.new wr 53 #[.int .i64 0, .int .i64 0, .int .i64 0, .int .i64 0]))
        have hNr : wr.heap.size ≠ N := by omega
        go_region_with ((go_at_call 36; first | (refine (C2.out _ D1.out).mono ?_; rintro e w3 ⟨rfl, hk3, hc3⟩; have E1 := Lib.hid (And.intro hk3 hc3); clear hk3 hc3) | (refine (C2.out _ D2.out).mono ?_; rintro e w3 ⟨rfl, hk3, hc3⟩; have z3 := D3.out.ch hc3 (show ¬ wr.heap.size = N from hNr); have x0 : w3.cell? ⟨wr.heap.size, 0, none⟩ = some (.int .i64 0) := (by rw [z3.cell]; rfl); have x1 : w3.cell? ⟨wr.heap.size, 1, none⟩ = some (.int .i64 0) := (by rw [z3.cell]; rfl); have x2 : w3.cell? ⟨wr.heap.size, 2, none⟩ = some (.int .i64 0) := (by rw [z3.cell]; rfl); have x3 : w3.cell? ⟨wr.heap.size, 3, none⟩ = some (.int .i64 0) := (by rw [z3.cell]; rfl); have f0 := z3.free 0; have f1 := z3.free 1; have f2 := z3.free 2; have f3 := z3.free 3; have E2 := Lib.hid (And.intro z3 (And.intro hk3 hc3)); clear z3 hk3 hc3)))
        all_goals
          go_wp2
          go_meet
        all_goals first | (have h1 := E1.out; exact seg1 hNl hmN HM.out HB.out h1.1 h1.2) | (have h1 := E2.out; exact seg2 hNl hmN HM.out HB.out h1.2.1 h1.2.2 h1.1)
      case rest =>
        clear s0 s1 s2 s3 s4 s0' s1' s2' s3' s4' q0 q1 q2 q3 q0' q1' q2' q3' HR HK HM HB hml hNl
        obtain ⟨r, rfl, rfl, hrN, hrm, hw, hk, hm, hb⟩ := hcut
        have hI2 : Inv S.1 S.2.1 S.2.2 d := hS ▸ stp_inv hI
        obtain ⟨S0, S1, S2⟩ := S
        simp only at hI2 hw hk
        clear hS hI
        have a0 : wc.cell? ⟨r, 0, none⟩ = some (.int .i64 S0) := by rw [hw.cell]; rfl
        have a1 : wc.cell? ⟨r, 1, none⟩ = some (.int .i64 S1) := by rw [hw.cell]; rfl
        have a2 : wc.cell? ⟨r, 2, none⟩ = some (.int .i64 S2) := by rw [hw.cell]; rfl
        have a3 : wc.cell? ⟨r, 3, none⟩ = some (.int .i64 d) := by rw [hw.cell]; rfl
        have b0 : wc.cell? ⟨m, 0, none⟩ = some (.int .i64 W) := by rw [hm.cell]; rfl
        have b1 : wc.cell? ⟨m, 1, none⟩ = some (.int .i64 a) := by rw [hm.cell]; rfl
        have b2 : wc.cell? ⟨m, 2, none⟩ = some (.int .i64 b) := by rw [hm.cell]; rfl
        have b3 : wc.cell? ⟨m, 3, none⟩ = some (.int .i64 d) := by rw [hm.cell]; rfl
        have f0 := hm.free 0
        have f1 := hm.free 1
        have f2 := hm.free 2
        have f3 := hm.free 3
        have hNm : N ≠ m := by omega
        have kf : Ck _ N S0 S1 S2 d := (((Whole.far hk (p := ⟨m, 0, none⟩) hNm (.int .i64 S0)).far (p := ⟨m, 1, none⟩) hNm (.int .i64 S1)).far (p := ⟨m, 2, none⟩) hNm (.int .i64 S2)).far (p := ⟨m, 3, none⟩) hNm (.int .i64 d)
        have mf := (((hm.set_ 0 (.int .i64 S0)).set_ 1 (.int .i64 S1)).set_ 2 (.int .i64 S2)).set_ 3 (.int .i64 d)
        have bf := (((hb.setCell (p := ⟨m, 0, none⟩) (by simp only; omega) (.int .i64 S0)).setCell (p := ⟨m, 1, none⟩) (by simp only; omega) (.int .i64 S1)).setCell (p := ⟨m, 2, none⟩) (by simp only; omega) (.int .i64 S2)).setCell (p := ⟨m, 3, none⟩) (by simp only; omega) (.int .i64 d)
        have KF := Lib.hid kf
        have MF := Lib.hid mf
        have BF := Lib.hid bf
        clear hw hk hm hb kf mf bf
        go_upto_region 12 with (fail)
        have kf := KF.out
        have mf := MF.out
        have bf := BF.out
        clear KF MF BF a0 a1 a2 a3 b0 b1 b2 b3 f0 f1 f2 f3
        generalize ((((wc.setCell ⟨m, 0, none⟩ (.int .i64 S0)).setCell ⟨m, 1, none⟩ (.int .i64 S1)).setCell ⟨m, 2, none⟩ (.int .i64 S2)).setCell ⟨m, 3, none⟩ (.int .i64 d)) = W5 at *
        have e0 : Below N w W5.drew := bf.drew
        have e1 : Whole W5.drew m 53 #[.int .i64 S0, .int .i64 S1, .int .i64 S2, .int .i64 d] := mf.drew
        have e2 : Ck W5.drew N S0 S1 S2 d := Whole.drew kf
        have e3 : W5.drew.cell? ⟨m, 0, none⟩ = some (.int .i64 S0) := by rw [mf.drew.cell]; rfl
        have e4 : W5.drew.cell? ⟨m, 1, none⟩ = some (.int .i64 S1) := by rw [mf.drew.cell]; rfl
        have e5 : W5.drew.cell? ⟨m, 2, none⟩ = some (.int .i64 S2) := by rw [mf.drew.cell]; rfl
        have e6 : W5.drew.cell? ⟨m, 3, none⟩ = some (.int .i64 d) := by rw [mf.drew.cell]; rfl
        have CW := Lib.hid (fun (w1 : World) (h : Pair N m N S0 S1 S2 d w w1) => wall_keep h)
        have CL := Lib.hid (fun (w1 : World) (h : Pair N m N S0 S1 S2 d w w1) => last_keep (by omega : N ≤ m) h)
        unfold gp at CW
        unfold gp stV at CL
        clear kf mf bf
        go_region_held3 (fun W' => Below N w W' ∧ Whole W' m 53 #[.int .i64 S0, .int .i64 S1, .int .i64 S2, .int .i64 d] ∧ Ck W' N S0 S1 S2 d ∧ W'.cell? ⟨m, 0, none⟩ = some (.int .i64 S0) ∧ W'.cell? ⟨m, 1, none⟩ = some (.int .i64 S1) ∧ W'.cell? ⟨m, 2, none⟩ = some (.int .i64 S2) ∧ W'.cell? ⟨m, 3, none⟩ = some (.int .i64 d)) (first | with_reducible assumption | exact ⟨by with_reducible assumption, by with_reducible assumption, by with_reducible assumption, by with_reducible assumption, by with_reducible assumption, by with_reducible assumption, by with_reducible assumption⟩) ((first
          | (go_at_call 37; refine (CW.out _ ⟨by with_reducible assumption, by with_reducible assumption, by with_reducible assumption, by with_reducible assumption, by with_reducible assumption, by with_reducible assumption, by with_reducible assumption⟩).mono ?_; rintro e w9 ⟨rfl, p0, p1, p2, p3, p4, p5, p6⟩)
          | (go_at_call 38; refine (CL.out _ ⟨by with_reducible assumption, by with_reducible assumption, by with_reducible assumption, by with_reducible assumption, by with_reducible assumption, by with_reducible assumption, by with_reducible assumption⟩).mono ?_; rintro e w9 ⟨rfl, p0, p1, p2, p3, p4, p5, p6⟩)))
        refine (by assumption : ∀ (a : Act) (w : World), _ → _) _ _ ?_
        go_wp2
        go_roundw
        case rel => exact ⟨j + 1, S0, S1, S2, by omega, by go_num, hI2, p2, p1, p0⟩
        case measure => simp [intOf]; omega
    · have hB' := Lib.hid hB
      clear hK hM hB hr hR
      go_wp2_with fail
      refine (C9.out _).mono ?_; rintro e w5 ⟨rfl, b5⟩
      go_wp2
      go_ret
      exact ⟨rfl, hB'.out.trans (below_of_le b5 (by have := hB'.out.size; omega))⟩
theorem clockPlays_walk (w : World) {d : Int} {v : Value} (hd : i64B d) (hv : IsRecs 5 w v) :
    Calls Try.prog 5 #[.int .i64 d, v] w fun e w' => e = .returned (.bool true) ∧ Below w.heap.size w w' := by
  obtain ⟨A, n, c, f, rfl, hnc, hc, hr, hf⟩ := hv
  have hc : c ≤ 9223372036854775807 := hc
  have C9 := Lib.hid awake19_any
  by_cases hn : n ≤ 100
  · cases hi : inB d 63
    · have C0 := Lib.hid (cnew_no d hi w)
      have t : d < 0 ∨ ¬ d < 0 ∧ 63 < d := by
        simp [inB] at hi
        omega
      clear hr hf hi
      rcases t with t | ⟨t1, t2⟩
      · go_enter Try.func5, Try.ntmps5
        go_wp2_with fail
        refine (C0.out).mono ?_; rintro e w1 ⟨rfl, b1⟩
        go_wp2_with fail
        refine (C9.out _).mono ?_; rintro e w2 ⟨rfl, b2⟩
        go_wp2
        go_ret
        exact ⟨rfl, below_step b1 b2⟩
      · go_enter Try.func5, Try.ntmps5
        go_wp2_with fail
        refine (C0.out).mono ?_; rintro e w1 ⟨rfl, b1⟩
        go_wp2_with fail
        refine (C9.out _).mono ?_; rintro e w2 ⟨rfl, b2⟩
        go_wp2
        go_ret
        exact ⟨rfl, below_step b1 b2⟩
    · exact clockPlays_in w d hi A n c f hr hf hn
  · have h1 : 100 < n := by omega
    clear hn hr hf
    go_enter Try.func5, Try.ntmps5
    go_wp2_with fail
    refine (C9.out _).mono ?_; rintro e w2 ⟨rfl, b2⟩
    go_wp2
    go_ret
    exact ⟨rfl, b2⟩
theorem clockPlays_law (w : World) {d : Int} {v : Value} (hd : (Lit.int .i64 d).wf = true) (hv : IsRecs 5 w v) :
    Calls Try.prog 5 #[.int .i64 d, v] w fun e w' => e = .returned (.bool true) ∧ Below w.heap.size w w' :=
  clockPlays_walk w (Go.bounds_i64 hd) hv
end Go.Proofs.Ytjlmbdhjpjbneaa
