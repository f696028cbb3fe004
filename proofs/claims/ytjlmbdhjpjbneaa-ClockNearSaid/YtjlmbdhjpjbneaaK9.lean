/- Layer 19 (clock): the walk of the law ClockNear. -/
import Derived.Test.YtjlmbdhjpjbneaaK8
namespace Go.Proofs.Ytjlmbdhjpjbneaa
open Go.RowKit
set_option linter.unusedVariables false
set_option maxRecDepth 100000

set_option maxHeartbeats 4000000 in
theorem clockNear_in (w : World) (D : Nat) (hD : D < 256) (A : Option Addr) (n c : Nat) (f : Nat → Nat → Int) (hr : Recs w w.heap.size 5 A n f) (hf : ∀ i j, i64B (f i j)) (hn : n ≤ 100) :
    Calls Try.prog 6 #[.int .u8 D, .slice A n c] w fun e w' => e = .returned (.bool true) ∧ Below w.heap.size w w' := by
  have hd : inB ((D : Int) % 64) 63 = true := by simp [inB]; omega
  have C0 := Lib.hid (cnew_yes ((D : Int) % 64) hd w)
  have C1 := Lib.hid (fun k m x y z W a b hi hm w1 h => lstep_any k m x y z W a b ((D : Int) % 64) hi hm w1 w.heap.size h)
  have C9 := Lib.hid awake19_any
  have hI0 : Inv 0 0 0 ((D : Int) % 64) := ⟨by unfold wallB; omega, by unfold wallB; omega, by omega, hd⟩
  clear hd
  generalize hN : w.heap.size = N at *
  unfold gp ckV spV at *
  go_enter Try.func6, Try.ntmps6
  go_wp2_with fail
  refine (C0.out).mono ?_; rintro e w1 ⟨rfl, k1, b1⟩
  have K1 := Lib.hid k1
  have B1 := Lib.hid b1
  clear k1 b1 C0
  have hz0 := K1.out.lt
  have K2 := Lib.hid (show Ck _ N 0 0 0 ((D : Int) % 64) from Whole.alloc K1.out (.cells #[.int .i64 0, .int .i64 0, .int .i64 0, .int .i64 ((D : Int) % 64)] 53))
  have M2 := Lib.hid (Whole.new w1 53 #[.int .i64 0, .int .i64 0, .int .i64 0, .int .i64 ((D : Int) % 64)])
  have B2 := Lib.hid (B1.out.alloc (by omega) (.cells #[.int .i64 0, .int .i64 0, .int .i64 0, .int .i64 ((D : Int) % 64)] 53))
  clear K1 B1
  go_wp2_with fail
  generalize (w1.alloc (.cells #[.int .i64 0, .int .i64 0, .int .i64 0, .int .i64 ((D : Int) % 64)] 53)) = w2 at *
  generalize w1.heap.size = m at *
  have hmN : m ≠ N := by omega
  generalize (D : Int) % 64 = d at *
  go_loopw [8] (fun i wr => ∃ (j : Nat) (W a b : Int), j ≤ n ∧ i = .int .i64 j ∧ Inv W a b d ∧ a - W ≤ 60000 ∧ Ck wr N W a b d ∧ Whole wr m 53 #[.int .i64 W, .int .i64 a, .int .i64 b, .int .i64 d] ∧ Below N w wr) (fun i _ => n - (intOf i).toNat)
  case atStart => exact ⟨0, 0, 0, 0, by omega, rfl, hI0, by omega, K2.out, M2.out, B2.out⟩
  case round =>
    obtain ⟨j, W, a, b, hj, rfl, hI, hNear, hK, hM, hB⟩ := hrel
    clear hI0 K2 M2 B2
    have hR := hr.below hB
    by_cases hlt : j < n
    · obtain ⟨b0, o0, rfl, hb0, hcell⟩ := hR (by omega)
      have hml := hM.lt
      have hNl := Whole.lt hK
      have s0 : wr.cell? ⟨b0, o0 + j * 5, none⟩ = some (.int .i64 (f j 0)) := hcell j hlt 0 (by omega)
      have s0' : (wr.alloc (.cells #[.int .i64 0, .int .i64 0, .int .i64 0, .int .i64 0] 53)).cell? ⟨b0, o0 + j * 5, none⟩ = some (.int .i64 (f j 0)) := by rw [World.cell?_alloc_lt _ _ _ (by simp only; omega)]; exact s0
      have s1 : wr.cell? ⟨b0, o0 + j * 5 + 1, none⟩ = some (.int .i64 (f j 1)) := hcell j hlt 1 (by omega)
      have s1' : (wr.alloc (.cells #[.int .i64 0, .int .i64 0, .int .i64 0, .int .i64 0] 53)).cell? ⟨b0, o0 + j * 5 + 1, none⟩ = some (.int .i64 (f j 1)) := by rw [World.cell?_alloc_lt _ _ _ (by simp only; omega)]; exact s1
      have s2 : wr.cell? ⟨b0, o0 + j * 5 + 2, none⟩ = some (.int .i64 (f j 2)) := hcell j hlt 2 (by omega)
      have s2' : (wr.alloc (.cells #[.int .i64 0, .int .i64 0, .int .i64 0, .int .i64 0] 53)).cell? ⟨b0, o0 + j * 5 + 2, none⟩ = some (.int .i64 (f j 2)) := by rw [World.cell?_alloc_lt _ _ _ (by simp only; omega)]; exact s2
      have s3 : wr.cell? ⟨b0, o0 + j * 5 + 3, none⟩ = some (.int .i64 (f j 3)) := hcell j hlt 3 (by omega)
      have s3' : (wr.alloc (.cells #[.int .i64 0, .int .i64 0, .int .i64 0, .int .i64 0] 53)).cell? ⟨b0, o0 + j * 5 + 3, none⟩ = some (.int .i64 (f j 3)) := by rw [World.cell?_alloc_lt _ _ _ (by simp only; omega)]; exact s3
      have s4 : wr.cell? ⟨b0, o0 + j * 5 + 4, none⟩ = some (.int .i64 (f j 4)) := hcell j hlt 4 (by omega)
      have s4' : (wr.alloc (.cells #[.int .i64 0, .int .i64 0, .int .i64 0, .int .i64 0] 53)).cell? ⟨b0, o0 + j * 5 + 4, none⟩ = some (.int .i64 (f j 4)) := by rw [World.cell?_alloc_lt _ _ _ (by simp only; omega)]; exact s4
      have q0 : wr.cell? ⟨m, 0, none⟩ = some (.int .i64 W) := by rw [hM.cell]; rfl
      have q0' : (wr.alloc (.cells #[.int .i64 0, .int .i64 0, .int .i64 0, .int .i64 0] 53)).cell? ⟨m, 0, none⟩ = some (.int .i64 W) := by rw [World.cell?_alloc_lt _ _ _ (by simp only; omega)]; exact q0
      have q1 : wr.cell? ⟨m, 1, none⟩ = some (.int .i64 a) := by rw [hM.cell]; rfl
      have q1' : (wr.alloc (.cells #[.int .i64 0, .int .i64 0, .int .i64 0, .int .i64 0] 53)).cell? ⟨m, 1, none⟩ = some (.int .i64 a) := by rw [World.cell?_alloc_lt _ _ _ (by simp only; omega)]; exact q1
      have q2 : wr.cell? ⟨m, 2, none⟩ = some (.int .i64 b) := by rw [hM.cell]; rfl
      have q2' : (wr.alloc (.cells #[.int .i64 0, .int .i64 0, .int .i64 0, .int .i64 0] 53)).cell? ⟨m, 2, none⟩ = some (.int .i64 b) := by rw [World.cell?_alloc_lt _ _ _ (by simp only; omega)]; exact q2
      have q3 : wr.cell? ⟨m, 3, none⟩ = some (.int .i64 d) := by rw [hM.cell]; rfl
      have q3' : (wr.alloc (.cells #[.int .i64 0, .int .i64 0, .int .i64 0, .int .i64 0] 53)).cell? ⟨m, 3, none⟩ = some (.int .i64 d) := by rw [World.cell?_alloc_lt _ _ _ (by simp only; omega)]; exact q3
      have HR := Lib.hid hR
      have HK := Lib.hid hK
      have HM := Lib.hid hM
      have HB := Lib.hid hB
      clear hR hK hM hB hcell hr
      by_cases hk4 : f j 0 = 4
      · have t4 : (f j 0 == 4) = true := by simp [hk4]
        clear q0' q1' q2' q3' s0' s1' s2' s3' s4'
        go_wp2
        go_roundw
        case rel => exact ⟨j + 1, W, a, b, by omega, by go_num, hI, hNear, HK.out, HM.out, HB.out⟩
        case measure => simp [intOf]; omega
      have t4 : (f j 0 == 4) = false := by simp [hk4]
      generalize hS : stp (f j 0) (f j 1) (f j 2) (f j 3) (f j 4) W a b d = S at *
      go_upto_region 9 with (fail)
      go_cut [9, 10] from 27 to 56 (fun x y wx => Seg N m w W a b d S.1 S.2.1 S.2.2 x y wx)
      case first =>
        have D1 := Lib.hid (show Ck wr.drew N W a b d from Whole.drew HK.out)
        have D2 := Lib.hid (show Ck (wr.drew.alloc (.cells #[.int .i64 0, .int .i64 0, .int .i64 0, .int .i64 0] 53)) N W a b d from Whole.alloc (Whole.drew HK.out) _)
        have C2' := fun w1 h => C1.out (f j 0) (f j 1) (f j 2) (f j 3) (f j 4) W a b hI (hf j 1) w1 h
        simp only [hS] at C2'
        have C2 := Lib.hid C2'
        clear C2'
        have D3 := Lib.hid (Whole.drew (Whole.new wr 53 #[.int .i64 0, .int .i64 0, .int .i64 0, .int .i64 0]))
        have hNr : wr.heap.size ≠ N := by omega
        go_region_with ((go_at_call 36; first | (refine (C2.out _ D1.out).mono ?_; rintro e w3 ⟨rfl, hk3, hc3⟩; have E1 := Lib.hid (And.intro hk3 hc3); clear hk3 hc3) | (refine (C2.out _ D2.out).mono ?_; rintro e w3 ⟨rfl, hk3, hc3⟩; have z3 := D3.out.ch hc3 (show ¬ wr.heap.size = N from hNr); have x0 : w3.cell? ⟨wr.heap.size, 0, none⟩ = some (.int .i64 0) := (by rw [z3.cell]; rfl); have x1 : w3.cell? ⟨wr.heap.size, 1, none⟩ = some (.int .i64 0) := (by rw [z3.cell]; rfl); have x2 : w3.cell? ⟨wr.heap.size, 2, none⟩ = some (.int .i64 0) := (by rw [z3.cell]; rfl); have x3 : w3.cell? ⟨wr.heap.size, 3, none⟩ = some (.int .i64 0) := (by rw [z3.cell]; rfl); have f0 := z3.free 0; have f1 := z3.free 1; have f2 := z3.free 2; have f3 := z3.free 3; have E2 := Lib.hid (And.intro z3 (And.intro hk3 hc3)); clear z3 hk3 hc3)))
        all_goals
          go_wp2
          go_meet
        all_goals first | (have h1 := E1.out; exact seg1 hNl hmN HM.out HB.out h1.1 h1.2) | (have h1 := E2.out; exact seg2 hNl hmN HM.out HB.out h1.2.1 h1.2.2 h1.1)
      case rest =>
        clear s0 s1 s2 s3 s4 s0' s1' s2' s3' s4' q0 q1 q2 q3 q0' q1' q2' q3' HR HK HM HB hml hNl
        obtain ⟨r, rfl, rfl, hrN, hrm, hw, hk, hm, hb⟩ := hcut
        have hI2 : Inv S.1 S.2.1 S.2.2 d := hS ▸ stp_inv hI
        have hN2 : S.2.1 - S.1 ≤ 60000 := hS ▸ stp_near hk4 hI hNear
        obtain ⟨S0, S1, S2⟩ := S
        simp only at hI2 hN2 hw hk
        clear hS hI
        have a0 : wc.cell? ⟨r, 0, none⟩ = some (.int .i64 S0) := by rw [hw.cell]; rfl
        have a1 : wc.cell? ⟨r, 1, none⟩ = some (.int .i64 S1) := by rw [hw.cell]; rfl
        have a2 : wc.cell? ⟨r, 2, none⟩ = some (.int .i64 S2) := by rw [hw.cell]; rfl
        have a3 : wc.cell? ⟨r, 3, none⟩ = some (.int .i64 d) := by rw [hw.cell]; rfl
        have b0 : wc.cell? ⟨m, 0, none⟩ = some (.int .i64 W) := by rw [hm.cell]; rfl
        have b1 : wc.cell? ⟨m, 1, none⟩ = some (.int .i64 a) := by rw [hm.cell]; rfl
        have b2 : wc.cell? ⟨m, 2, none⟩ = some (.int .i64 b) := by rw [hm.cell]; rfl
        have b3 : wc.cell? ⟨m, 3, none⟩ = some (.int .i64 d) := by rw [hm.cell]; rfl
        have f0 := hm.free 0
        have f1 := hm.free 1
        have f2 := hm.free 2
        have f3 := hm.free 3
        have hNm : N ≠ m := by omega
        have kf : Ck _ N S0 S1 S2 d := (((Whole.far hk (p := ⟨m, 0, none⟩) hNm (.int .i64 S0)).far (p := ⟨m, 1, none⟩) hNm (.int .i64 S1)).far (p := ⟨m, 2, none⟩) hNm (.int .i64 S2)).far (p := ⟨m, 3, none⟩) hNm (.int .i64 d)
        have mf := (((hm.set_ 0 (.int .i64 S0)).set_ 1 (.int .i64 S1)).set_ 2 (.int .i64 S2)).set_ 3 (.int .i64 d)
        have bf := (((hb.setCell (p := ⟨m, 0, none⟩) (by simp only; omega) (.int .i64 S0)).setCell (p := ⟨m, 1, none⟩) (by simp only; omega) (.int .i64 S1)).setCell (p := ⟨m, 2, none⟩) (by simp only; omega) (.int .i64 S2)).setCell (p := ⟨m, 3, none⟩) (by simp only; omega) (.int .i64 d)
        have KF := Lib.hid kf
        have MF := Lib.hid mf
        have BF := Lib.hid bf
        clear hw hk hm hb kf mf bf
        go_upto_region 11 with (fail)
        have kf := KF.out
        have mf := MF.out
        have bf := BF.out
        clear KF MF BF a0 a1 a2 a3 b0 b1 b2 b3 f0 f1 f2 f3
        generalize ((((wc.setCell ⟨m, 0, none⟩ (.int .i64 S0)).setCell ⟨m, 1, none⟩ (.int .i64 S1)).setCell ⟨m, 2, none⟩ (.int .i64 S2)).setCell ⟨m, 3, none⟩ (.int .i64 d)) = W5 at *
        have CW := Lib.hid (fun (w1 : World) h => wall_any S0 S1 S2 d w1 N h)
        have CL := Lib.hid (fun (w1 : World) h => last_any S0 S1 S2 d w1 N h)
        unfold gp at CW
        unfold gp stV at CL
        have h1 := hI2.1
        have h2 := hI2.2.1
        unfold wallB at h1 h2
        have ew : IntKind.i64.wrap (S1 - S0) = S1 - S0 := IntWalk.i64_in _ (by omega)
        have t6 : ¬ 60000 < S1 - S0 := by omega
        go_wp2_with fail
        refine (CL.out _ kf).mono ?_; rintro e w6 ⟨rfl, b6⟩
        have k6 : Ck w6 N S0 S1 S2 d := Whole.below kf b6 (Whole.lt kf)
        have m6 := mf.below b6 mf.lt
        have b6' : Below N w w6 := bf.trans (below_of_le b6 (by have := mf.lt; omega))
        clear kf mf bf b6
        go_wp2_with fail
        simp [go_sem, Instr.field, part, asAgg]
        go_wp2_with fail
        refine (CW.out _ k6).mono ?_; rintro e w7 ⟨rfl, rfl⟩
        go_wp2
        go_roundw
        case rel => exact ⟨j + 1, S0, S1, S2, by omega, by go_num, hI2, hN2, k6, m6, b6'⟩
        case measure => simp [intOf]; omega
    · have hB' := Lib.hid hB
      clear hK hM hB hr hR
      go_wp2_with fail
      refine (C9.out _).mono ?_; rintro e w5 ⟨rfl, b5⟩
      go_wp2
      go_ret
      exact ⟨rfl, hB'.out.trans (below_of_le b5 (by have := hB'.out.size; omega))⟩
theorem clockNear_law (w : World) {d : Int} {v : Value} (hd : (Lit.int .u8 d).wf = true) (hv : IsRecs 5 w v) :
    Calls Try.prog 6 #[.int .u8 d, v] w fun e w' => e = .returned (.bool true) ∧ Below w.heap.size w w' := by
  obtain ⟨A, n, c, f, rfl, hnc, hc, hr, hf⟩ := hv
  have hc : c ≤ 9223372036854775807 := hc
  have hd := Go.bounds_u8 hd
  obtain ⟨D, rfl⟩ := Int.eq_ofNat_of_zero_le hd.1
  have C9 := Lib.hid awake19_any
  by_cases hn : n ≤ 100
  · exact clockNear_in w D (by omega) A n c f hr hf hn
  · have h1 : 100 < n := by omega
    clear hn hr hf
    go_enter Try.func6, Try.ntmps6
    go_wp2_with fail
    refine (C9.out _).mono ?_; rintro e w2 ⟨rfl, b2⟩
    go_wp2
    go_ret
    exact ⟨rfl, b2⟩
end Go.Proofs.Ytjlmbdhjpjbneaa
