/- Layer 19 (clock): the document's Get of a stamp; a nil clock. -/
import Derived.Test.YtjlmbdhjpjbneaaK13
namespace Go.Proofs.Ytjlmbdhjpjbneaa
open Go.RowKit
set_option linter.unusedVariables false
set_option maxRecDepth 100000

theorem tick_nil (x : Int) (w : World) : Calls Try.prog 31 #[.pointer none, .int .i64 x] w fun e w' => e = .returned (.int .i64 17) ∧ Below w.heap.size w w' := by
  go_enter Try.func31, Try.ntmps31
  go_wp2
  go_ret
  exact ⟨rfl, Below.refl _ _⟩
theorem hear_nil (a b c : Int) (w : World) : Calls Try.prog 34 #[.pointer none, stV a b c] w fun e w' => e = .returned (.int .i64 17) ∧ Below w.heap.size w w' := by
  unfold stV
  go_enter Try.func34, Try.ntmps34
  go_wp2
  go_ret
  exact ⟨rfl, (Below.refl _ _).alloc (Nat.le_refl _) _⟩
theorem restore_nil (a b c : Int) (w : World) : Calls Try.prog 35 #[.pointer none, stV a b c] w fun e w' => e = .returned (.int .i64 17) ∧ Below w.heap.size w w' := by
  unfold stV
  go_enter Try.func35, Try.ntmps35
  go_wp2
  go_ret
  exact ⟨rfl, (Below.refl _ _).alloc (Nat.le_refl _) _⟩
theorem wall_nil (w : World) : Calls Try.prog 37 #[.pointer none] w fun e w' => e = .returned (.int .i64 0) ∧ Below w.heap.size w w' := by
  go_enter Try.func37, Try.ntmps37
  go_wp2
  go_ret
  exact ⟨rfl, Below.refl _ _⟩
theorem last_nil (w : World) : Calls Try.prog 38 #[.pointer none] w fun e w' => e = .returned (stV 0 0 0) ∧ Below w.heap.size w w' := by
  go_enter Try.func38, Try.ntmps38
  go_wp2
  exact bodyPost_ret (v := .agg #[.int .i64 0, .int .i64 0, .int .i64 0]) (by simp [results, Try.results38, go_sem]) rfl ⟨rfl, (Below.refl _ _).alloc (Nat.le_refl _) _⟩
theorem peek_nil (w : World) : Calls Try.prog 77 #[.pointer none] w fun e w' => e = .returned (.tuple #[stV 0 0 0, .int .i64 17]) ∧ Below w.heap.size w w' := by
  go_enter Try.func77, Try.ntmps77
  go_wp2
  exact bodyPost_ret (v := .tuple #[.agg #[.int .i64 0, .int .i64 0, .int .i64 0], .int .i64 17]) (by simp [results, Try.results77, go_sem]) rfl ⟨rfl, (Below.refl _ _).alloc (Nat.le_refl _) _⟩
theorem cnext_nil (w : World) : Calls Try.prog 32 #[.pointer none] w fun e w' => e = .returned (.tuple #[stV 0 0 0, .int .i64 17]) ∧ Below w.heap.size w w' := by
  have C1 := Lib.hid (fun w => peek_nil w)
  unfold stV at *
  have hR := Lib.hid (Whole.new w 43 #[.int .i64 0, .int .i64 0, .int .i64 0])
  have hB := Lib.hid ((Below.refl w.heap.size w).alloc (Nat.le_refl _) (.cells #[.int .i64 0, .int .i64 0, .int .i64 0] 43))
  go_enter Try.func32, Try.ntmps32
  go_wp2_with fail
  refine (C1.out _).mono ?_; rintro e w1 ⟨rfl, b1⟩
  have hz := Lib.hid ((hR.out.below b1 hR.out.lt).alloc (.cells #[.int .i64 0, .int .i64 0, .int .i64 0] 43))
  have hb := Lib.hid ((below_step hB.out b1).alloc (by have := b1.size; simp at this; omega) (.cells #[.int .i64 0, .int .i64 0, .int .i64 0] 43))
  have hs := Lib.hid (Whole.new w1 43 #[.int .i64 0, .int .i64 0, .int .i64 0])
  have hlt : w.heap.size < w1.heap.size := by have := b1.size; simp at this; omega
  clear hR hB b1 C1
  go_upto_region 4 with (fail)
  generalize (w1.alloc (.cells #[.int .i64 0, .int .i64 0, .int .i64 0] 43)) = W2 at *
  generalize w1.heap.size = m at *
  generalize hn : w.heap.size = N at *
  have q0 : W2.cell? ⟨m, 0, none⟩ = some (.int .i64 0) := by rw [hs.out.cell]; rfl
  have q1 : W2.cell? ⟨m, 1, none⟩ = some (.int .i64 0) := by rw [hs.out.cell]; rfl
  have q2 : W2.cell? ⟨m, 2, none⟩ = some (.int .i64 0) := by rw [hs.out.cell]; rfl
  have z0 : W2.cell? ⟨N, 0, none⟩ = some (.int .i64 0) := by rw [hz.out.cell]; rfl
  have z1 : W2.cell? ⟨N, 1, none⟩ = some (.int .i64 0) := by rw [hz.out.cell]; rfl
  have z2 : W2.cell? ⟨N, 2, none⟩ = some (.int .i64 0) := by rw [hz.out.cell]; rfl
  have f0 := hz.out.free 0
  have f1 := hz.out.free 1
  have f2 := hz.out.free 2
  have hmn : m ≠ N := by omega
  go_wp2
  have zz := ((hz.out.set_ 0 (.int .i64 0)).set_ 1 (.int .i64 0)).set_ 2 (.int .i64 0)
  have bb := ((hb.out.setCell (p := ⟨N, 0, none⟩) (Nat.le_refl _) (.int .i64 0)).setCell (p := ⟨N, 1, none⟩) (Nat.le_refl _) (.int .i64 0)).setCell (p := ⟨N, 2, none⟩) (Nat.le_refl _) (.int .i64 0)
  generalize (((W2.setCell ⟨N, 0, none⟩ (.int .i64 0)).setCell ⟨N, 1, none⟩ (.int .i64 0)).setCell ⟨N, 2, none⟩ (.int .i64 0)) = W9 at *
  have x0 : W9.cell? ⟨N, 0, none⟩ = some (.int .i64 0) := by rw [zz.cell]; rfl
  have x1 : W9.cell? ⟨N, 1, none⟩ = some (.int .i64 0) := by rw [zz.cell]; rfl
  have x2 : W9.cell? ⟨N, 2, none⟩ = some (.int .i64 0) := by rw [zz.cell]; rfl
  exact bodyPost_ret (v := .tuple #[.agg #[.int .i64 0, .int .i64 0, .int .i64 0], .int .i64 17]) (by simp [results, Try.results32, go_sem, x0, x1, x2]) rfl ⟨rfl, hn ▸ bb⟩
/-- What the document's Get hands back. -/
def SG (w : World) (B : Nat) (l : List UInt8) (er : Int) (e : Ending) (w' : World) : Prop :=
  ∃ A n c, e = .returned (.tuple #[rdV A n c (stG l er).2.2, stGV l er]) ∧ Rd w' B 1 A n (bv (stG l er).2.1) ∧ n ≤ c ∧ c ≤ maxLen ∧ Below w.heap.size w w'
set_option maxHeartbeats 1000000 in
theorem rcget_any (w : World) (B : Nat) (A : Option Addr) (n c : Nat) (l : List UInt8) (er : Int) (hr : Rd w B 1 A n (bv l)) (hnc : n ≤ c) (hcm : c ≤ maxLen) (hB : B ≤ w.heap.size) :
    Calls Try.prog 74 #[rdV A n c er] w (SG w B l er) := by
  have C1 := Lib.hid (fun w A n c h1 h2 h3 h4 => readnum_any w B A n c l er 4398046511104 h1 h2 h3 h4)
  have m1 := rnumR_le 4398046511104 l er
  unfold SG stGV stG
  simp only
  generalize rnumR 4398046511104 l er = R1 at *
  obtain ⟨v1, l1, r1⟩ := R1
  simp only at *
  have C2 := Lib.hid (fun w A n c h1 h2 h3 h4 => readnum_any w B A n c l1 r1 65535 h1 h2 h3 h4)
  have m2 := rnumR_le 65535 l1 r1
  generalize rnumR 65535 l1 r1 = R2 at *
  obtain ⟨v2, l2, r2⟩ := R2
  simp only at *
  have C3 := Lib.hid (fun w A n c h1 h2 h3 h4 => readnum_any w B A n c l2 r2 63 h1 h2 h3 h4)
  have m3 := rnumR_le 63 l2 r2
  generalize rnumR 63 l2 r2 = R3 at *
  obtain ⟨v3, l3, r3⟩ := R3
  simp only at *
  have y1 : IntKind.i64.wrap (v1 : Int) = (v1 : Int) := IntWalk.i64_in _ (by omega)
  have y2 : IntKind.i64.wrap (v2 : Int) = (v2 : Int) := IntWalk.i64_in _ (by omega)
  have y3 : IntKind.i64.wrap (v3 : Int) = (v3 : Int) := IntWalk.i64_in _ (by omega)
  have hX := Lib.hid (box3_new w 108 108 43 #[.slice A n c, .int .i64 er] #[.slice none 0 0, .int .i64 0] #[.int .i64 0, .int .i64 0, .int .i64 0])
  have hr0 := hr.below (below_of_le hX.out.1 hB)
  clear m1 m2 m3 hr
  unfold rdV stV at *
  generalize hV : (if r3 ≠ 0 then Value.agg #[.int .i64 0, .int .i64 0, .int .i64 0] else Value.agg #[.int .i64 v1, .int .i64 v2, .int .i64 v3]) = V
  have HV := Lib.hid hV
  clear hV
  go_enter Try.func74, Try.ntmps74
  go_wp2_with fail
  generalize hW0 : (((w.alloc (.cells #[.slice A n c, .int .i64 er] 108)).alloc (.cells #[.slice none 0 0, .int .i64 0] 108)).alloc (.cells #[.int .i64 0, .int .i64 0, .int .i64 0] 43)) = W0 at *
  generalize hN : w.heap.size = N at *
  clear hW0
  have hW0 := hX.out.2.1
  refine (C1.out W0 A n c hr0 hnc hcm (by omega)).mono ?_; rintro e w1 ⟨A1, n1, c1, rfl, hr1, hnc1, hcm1, b1⟩
  have X1 := hX.out.step b1
  have B1 := Below.alloc (Below.refl w1.heap.size w1) (Nat.le_refl _) (.cells #[.slice A1 n1 c1, .int .i64 r1] 108)
  have hz1 := X1.2.1
  have X1' := Lib.hid (X1.step B1)
  have r1' := hr1.below (below_of_le B1 (by omega))
  have hz1' := B1.size
  clear b1 X1 B1 hr1 hX hr0 C1
  unfold rdV at *
  go_wp2_with fail
  refine (C2.out _ A1 n1 c1 r1' hnc1 hcm1 (by omega)).mono ?_; rintro e w2 ⟨A2, n2, c2, rfl, hr2, hnc2, hcm2, b2⟩
  have X2 := X1'.out.step b2
  have B2 := Below.alloc (Below.refl w2.heap.size w2) (Nat.le_refl _) (.cells #[.slice A2 n2 c2, .int .i64 r2] 108)
  have hz2 := X2.2.1
  have X2' := Lib.hid (X2.step B2)
  have r2' := hr2.below (below_of_le B2 (by omega))
  have hz2' := B2.size
  clear b2 X2 B2 hr2 X1' r1' C2 hz1'
  unfold rdV at *
  go_wp2_with fail
  refine (C3.out _ A2 n2 c2 r2' hnc2 hcm2 (by omega)).mono ?_; rintro e w3 ⟨A3, n3, c3, rfl, hr3, hnc3, hcm3, b3⟩
  have X3 := X2'.out.step b3
  have B3 := Below.alloc (Below.refl w3.heap.size w3) (Nat.le_refl _) (.cells #[.slice A3 n3 c3, .int .i64 r3] 108)
  have hz3 := X3.2.1
  have X3' := Lib.hid (X3.step B3)
  have r3' := Lib.hid (hr3.below (below_of_le B3 (by omega)))
  have M3 := Lib.hid (Whole.new w3 108 #[.slice A3 n3 c3, .int .i64 r3])
  clear b3 X3 B3 hr3 X2' r2' C3 hz2'
  unfold rdV at *
  go_upto_region 4 with (fail)
  generalize (w3.alloc (.cells #[.slice A3 n3 c3, .int .i64 r3] 108)) = w4 at *
  generalize w3.heap.size = m at *
  obtain ⟨hb, hs, _, hy, hz⟩ := X3'.out
  have q0 : w4.cell? ⟨m, 0, none⟩ = some (.slice A3 n3 c3) := by rw [M3.out.cell]; rfl
  have q1 : w4.cell? ⟨m, 1, none⟩ = some (.int .i64 r3) := by rw [M3.out.cell]; rfl
  have y0 : w4.cell? ⟨N + 1, 0, none⟩ = some (.slice none 0 0) := by rw [hy.cell]; rfl
  have y1' : w4.cell? ⟨N + 1, 1, none⟩ = some (.int .i64 0) := by rw [hy.cell]; rfl
  have z0 : w4.cell? ⟨N + 2, 0, none⟩ = some (.int .i64 0) := by rw [hz.cell]; rfl
  have z1 : w4.cell? ⟨N + 2, 1, none⟩ = some (.int .i64 0) := by rw [hz.cell]; rfl
  have z2 : w4.cell? ⟨N + 2, 2, none⟩ = some (.int .i64 0) := by rw [hz.cell]; rfl
  have f0 := hy.free 0
  have f1 := hy.free 1
  have f2 := hz.free 0
  have f3 := hz.free 1
  have f4 := hz.free 2
  have hm1 : m ≠ N + 1 := by omega
  have hm2 : m ≠ N + 2 := by omega
  have hfin : ∀ (u0 u1 v0 v1 v2 : Value), Whole (((((w4.setCell ⟨N + 1, 0, none⟩ u0).setCell ⟨N + 1, 1, none⟩ u1).setCell ⟨N + 2, 0, none⟩ v0).setCell ⟨N + 2, 1, none⟩ v1).setCell ⟨N + 2, 2, none⟩ v2) (N + 1) 108 #[u0, u1] ∧
      Whole (((((w4.setCell ⟨N + 1, 0, none⟩ u0).setCell ⟨N + 1, 1, none⟩ u1).setCell ⟨N + 2, 0, none⟩ v0).setCell ⟨N + 2, 1, none⟩ v1).setCell ⟨N + 2, 2, none⟩ v2) (N + 2) 43 #[v0, v1, v2] ∧
      Below N w (((((w4.setCell ⟨N + 1, 0, none⟩ u0).setCell ⟨N + 1, 1, none⟩ u1).setCell ⟨N + 2, 0, none⟩ v0).setCell ⟨N + 2, 1, none⟩ v1).setCell ⟨N + 2, 2, none⟩ v2) ∧
      Rd (((((w4.setCell ⟨N + 1, 0, none⟩ u0).setCell ⟨N + 1, 1, none⟩ u1).setCell ⟨N + 2, 0, none⟩ v0).setCell ⟨N + 2, 1, none⟩ v1).setCell ⟨N + 2, 2, none⟩ v2) B 1 A3 n3 (bv l3) := by
    intro u0 u1 v0 v1 v2
    refine ⟨?_, ?_, ?_, ?_⟩
    · have := ((((hy.set_ 0 u0).set_ 1 u1).far (p := ⟨N + 2, 0, none⟩) (by show N + 1 ≠ N + 2; omega) v0).far (p := ⟨N + 2, 1, none⟩) (by show N + 1 ≠ N + 2; omega) v1).far (p := ⟨N + 2, 2, none⟩) (by show N + 1 ≠ N + 2; omega) v2
      simpa using this
    · have := ((((hz.far (p := ⟨N + 1, 0, none⟩) (by show N + 2 ≠ N + 1; omega) u0).far (p := ⟨N + 1, 1, none⟩) (by show N + 2 ≠ N + 1; omega) u1).set_ 0 v0).set_ 1 v1).set_ 2 v2
      simpa using this
    · exact ((((hb.setCell (p := ⟨N + 1, 0, none⟩) (by show N ≤ N + 1; omega) u0).setCell (p := ⟨N + 1, 1, none⟩) (by show N ≤ N + 1; omega) u1).setCell (p := ⟨N + 2, 0, none⟩) (by show N ≤ N + 2; omega) v0).setCell (p := ⟨N + 2, 1, none⟩) (by show N ≤ N + 2; omega) v1).setCell (p := ⟨N + 2, 2, none⟩) (by show N ≤ N + 2; omega) v2
    · exact ((((r3'.out.setCell (p := ⟨N + 1, 0, none⟩) (by show B ≤ N + 1; omega) u0).setCell (p := ⟨N + 1, 1, none⟩) (by show B ≤ N + 1; omega) u1).setCell (p := ⟨N + 2, 0, none⟩) (by show B ≤ N + 2; omega) v0).setCell (p := ⟨N + 2, 1, none⟩) (by show B ≤ N + 2; omega) v1).setCell (p := ⟨N + 2, 2, none⟩) (by show B ≤ N + 2; omega) v2
  have HF := Lib.hid hfin
  clear hfin hy hz hb M3 X3' r3'
  by_cases h3 : r3 = 0
  · subst h3
    have t3 : ((0 : Int) != 0) = false := rfl
    have hv := HV.out
    rw [if_neg (by simp)] at hv
    subst hv
    clear HV
    go_wp2
    obtain ⟨g1, g2, g3, g4⟩ := HF.out (.slice A3 n3 c3) (.int .i64 0) (.int .i64 v1) (.int .i64 v2) (.int .i64 v3)
    change bodyPost _ _ _ _ _ (((((w4.setCell ⟨N + 1, 0, none⟩ (.slice A3 n3 c3)).setCell ⟨N + 1, 1, none⟩ (.int .i64 0)).setCell ⟨N + 2, 0, none⟩ (.int .i64 v1)).setCell ⟨N + 2, 1, none⟩ (.int .i64 v2)).setCell ⟨N + 2, 2, none⟩ (.int .i64 v3))
    generalize (((((w4.setCell ⟨N + 1, 0, none⟩ (.slice A3 n3 c3)).setCell ⟨N + 1, 1, none⟩ (.int .i64 0)).setCell ⟨N + 2, 0, none⟩ (.int .i64 v1)).setCell ⟨N + 2, 1, none⟩ (.int .i64 v2)).setCell ⟨N + 2, 2, none⟩ (.int .i64 v3)) = W9 at *
    have x0 : W9.cell? ⟨N + 1, 0, none⟩ = some (.slice A3 n3 c3) := by rw [g1.cell]; rfl
    have x1 : W9.cell? ⟨N + 1, 1, none⟩ = some (.int .i64 0) := by rw [g1.cell]; rfl
    have x2 : W9.cell? ⟨N + 2, 0, none⟩ = some (.int .i64 v1) := by rw [g2.cell]; rfl
    have x3 : W9.cell? ⟨N + 2, 1, none⟩ = some (.int .i64 v2) := by rw [g2.cell]; rfl
    have x4 : W9.cell? ⟨N + 2, 2, none⟩ = some (.int .i64 v3) := by rw [g2.cell]; rfl
    exact bodyPost_ret (v := .tuple #[.agg #[.slice A3 n3 c3, .int .i64 0], .agg #[.int .i64 v1, .int .i64 v2, .int .i64 v3]]) (by simp [results, Try.results74, go_sem, x0, x1, x2, x3, x4]) rfl ⟨A3, n3, c3, rfl, g4, hnc3, hcm3, hN ▸ g3⟩
  · have t3 : (r3 != 0) = true := by simp [h3]
    have hv := HV.out
    rw [if_pos h3] at hv
    subst hv
    clear HV
    go_wp2
    obtain ⟨g1, g2, g3, g4⟩ := HF.out (.slice A3 n3 c3) (.int .i64 r3) (.int .i64 0) (.int .i64 0) (.int .i64 0)
    change bodyPost _ _ _ _ _ (((((w4.setCell ⟨N + 1, 0, none⟩ (.slice A3 n3 c3)).setCell ⟨N + 1, 1, none⟩ (.int .i64 r3)).setCell ⟨N + 2, 0, none⟩ (.int .i64 0)).setCell ⟨N + 2, 1, none⟩ (.int .i64 0)).setCell ⟨N + 2, 2, none⟩ (.int .i64 0))
    generalize (((((w4.setCell ⟨N + 1, 0, none⟩ (.slice A3 n3 c3)).setCell ⟨N + 1, 1, none⟩ (.int .i64 r3)).setCell ⟨N + 2, 0, none⟩ (.int .i64 0)).setCell ⟨N + 2, 1, none⟩ (.int .i64 0)).setCell ⟨N + 2, 2, none⟩ (.int .i64 0)) = W9 at *
    have x0 : W9.cell? ⟨N + 1, 0, none⟩ = some (.slice A3 n3 c3) := by rw [g1.cell]; rfl
    have x1 : W9.cell? ⟨N + 1, 1, none⟩ = some (.int .i64 r3) := by rw [g1.cell]; rfl
    have x2 : W9.cell? ⟨N + 2, 0, none⟩ = some (.int .i64 0) := by rw [g2.cell]; rfl
    have x3 : W9.cell? ⟨N + 2, 1, none⟩ = some (.int .i64 0) := by rw [g2.cell]; rfl
    have x4 : W9.cell? ⟨N + 2, 2, none⟩ = some (.int .i64 0) := by rw [g2.cell]; rfl
    exact bodyPost_ret (v := .tuple #[.agg #[.slice A3 n3 c3, .int .i64 r3], .agg #[.int .i64 0, .int .i64 0, .int .i64 0]]) (by simp [results, Try.results74, go_sem, x0, x1, x2, x3, x4]) rfl ⟨A3, n3, c3, rfl, g4, hnc3, hcm3, hN ▸ g3⟩
end Go.Proofs.Ytjlmbdhjpjbneaa
