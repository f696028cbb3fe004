/- Layer 16 (dot): Get of a dot that was packed. -/
import Derived.Test.YtailbppddnegoaaD10
namespace Go.Proofs.Ytailbppddnegoaa
open Go.RowKit
set_option linter.unusedVariables false
set_option maxRecDepth 100000

theorem rnumR_putx {most x : Nat} (r : List UInt8) (h : x ≤ most) (h2 : x < 18446744073709551616) : rnumR most (vput x ++ r) 0 = (x, r, 0) := by
  unfold rnumR
  rw [vget_put x r h2]
  simp
  omega
set_option maxHeartbeats 1000000 in
theorem dget_put (d i s : Int) (hq : dotB d i s = true) (R : List UInt8) (w : World) (b : Nat) (A : Option Addr) (n c : Nat) (h : Re w b A n c (dotP d i s ++ R) 0) :
    Calls Try.prog 109 #[.pointer (some ⟨b, 0, none⟩)] w (REnd w b (R, 0) (dotV d i s)) := by
  have hB : ∃ D I S : Nat, d = D ∧ i = I ∧ s = S ∧ D < 64 ∧ I ≤ 1048576 ∧ S ≤ 4294967296 := by
    have hb := hq
    simp [dotB, actB] at hb
    exact ⟨d.toNat, i.toNat, s.toNat, by omega, by omega, by omega, by omega, by omega, by omega⟩
  have hP : dotP d i s = vput d.toNat ++ (vput i.toNat ++ vput s.toNat) := by unfold dotP; rw [if_pos hq]
  have C5 := Lib.hid (fun w => right_any d i s w)
  rw [hq] at C5
  obtain ⟨D, I, S, rfl, rfl, rfl, b1, b2, b3⟩ := hB
  rw [hP] at h
  simp only [Int.toNat_natCast, List.append_assoc] at h
  clear hP hq
  have C1 := Lib.hid (fun w A n c h => rnum_any w b A n c (vput D ++ (vput I ++ (vput S ++ R))) 0 63 h)
  have C2 := Lib.hid (fun w A n c h => rnum_any w b A n c (vput I ++ (vput S ++ R)) 0 1048576 h)
  have C3 := Lib.hid (fun w A n c h => rnum_any w b A n c (vput S ++ R) 0 4294967296 h)
  have C4 := Lib.hid (fun w A n c h => rerr_any w b A n c R 0 h)
  rw [rnumR_putx _ (by omega) (by omega)] at C1 C2 C3
  have y1 : IntKind.i64.wrap (D : Int) = (D : Int) := IntWalk.i64_in _ (by omega)
  have y2 : IntKind.i64.wrap (I : Int) = (I : Int) := IntWalk.i64_in _ (by omega)
  have y3 : IntKind.i64.wrap (S : Int) = (S : Int) := IntWalk.i64_in _ (by omega)
  have hlt := h.1.lt
  have hbn : w.heap.size ≠ b := by omega
  have hZ := Lib.hid (Whole.new w 27 #[.int .i64 0, .int .i64 0, .int .i64 0])
  have hRe : Re (w.alloc (.cells #[.int .i64 0, .int .i64 0, .int .i64 0] 27)) b A n c (vput D ++ (vput I ++ (vput S ++ R))) 0 := ⟨h.1.alloc _, h.2.1.alloc (by omega) _, h.2.2⟩
  have hC := Lib.hid (Ch.alloc_ (fun k => k = b) w (.cells #[.int .i64 0, .int .i64 0, .int .i64 0] 27))
  have hsz : w.heap.size < (w.alloc (.cells #[.int .i64 0, .int .i64 0, .int .i64 0] 27)).heap.size := by simp
  clear h b1 b2 b3
  unfold dotV at C5 ⊢
  go_enter Try.func109, Try.ntmps109
  go_wp2_with fail
  generalize (w.alloc (.cells #[.int .i64 0, .int .i64 0, .int .i64 0] 27)) = W1 at *
  refine (C1.out _ _ _ _ hRe).mono ?_; rintro e w2 ⟨A2, n2, c2, rfl, hR2, h2⟩
  have Z2 := Lib.hid (hZ.out.ch h2 hbn)
  have D2 := Lib.hid (hC.out.trans h2 (fun k _ h => h))
  clear hRe h2 hZ hC
  go_wp2_with fail
  refine (C2.out _ _ _ _ hR2).mono ?_; rintro e w3 ⟨A3, n3, c3, rfl, hR3, h3⟩
  have Z3 := Lib.hid (Z2.out.ch h3 hbn)
  have D3 := Lib.hid (D2.out.trans h3 (fun k _ h => h))
  clear hR2 h3 Z2 D2
  go_wp2_with fail
  refine (C3.out _ _ _ _ hR3).mono ?_; rintro e w4 ⟨A4, n4, c4, rfl, hR4, h4⟩
  have hz4 := hR4.1.lt
  have Z4 := Lib.hid ((Z3.out.ch h4 hbn).alloc (.cells #[.int .i64 D, .int .i64 I, .int .i64 S] 27))
  have hlz := (Z3.out.ch h4 hbn).lt
  have M4 := Lib.hid (Whole.new w4 27 #[.int .i64 D, .int .i64 I, .int .i64 S])
  have D4 := Lib.hid ((D3.out.trans h4 (fun k _ h => h)).trans (Ch.alloc_ (fun k => k = b) w4 (.cells #[.int .i64 D, .int .i64 I, .int .i64 S] 27)) (fun k _ h => h))
  have R4 : Re (w4.alloc (.cells #[.int .i64 D, .int .i64 I, .int .i64 S] 27)) b A4 n4 c4 R 0 := ⟨hR4.1.alloc _, hR4.2.1.alloc (by omega) _, hR4.2.2⟩
  clear hR3 h4 Z3 D3 hR4
  go_wp2_with fail
  refine (C4.out _ _ _ _ R4).mono ?_; rintro e w5 ⟨rfl, rfl⟩
  generalize (w4.alloc (.cells #[.int .i64 D, .int .i64 I, .int .i64 S] 27)) = w5 at *
  generalize hn : w.heap.size = N at *
  generalize w4.heap.size = m at *
  have q0 : w5.cell? ⟨m, 0, none⟩ = some (.int .i64 D) := by rw [M4.out.cell]; rfl
  have q1 : w5.cell? ⟨m, 1, none⟩ = some (.int .i64 I) := by rw [M4.out.cell]; rfl
  have q2 : w5.cell? ⟨m, 2, none⟩ = some (.int .i64 S) := by rw [M4.out.cell]; rfl
  go_wp2_with fail
  refine (C5.out _).mono ?_; rintro e w6 ⟨rfl, b6⟩
  have R6 : Re w6 b A4 n4 c4 R 0 := ⟨R4.1.below b6 R4.1.lt, R4.2.1.below (below_of_le b6 (by have := R4.1.lt; omega)), R4.2.2⟩
  have Z6 := Lib.hid (Z4.out.below b6 Z4.out.lt)
  have M6 := Lib.hid (M4.out.below b6 M4.out.lt)
  have D6 := Lib.hid (D4.out.trans (below_ch b6) (fun k _ h => h))
  clear q0 q1 q2 R4 Z4 M4 D4 b6 C1 C2 C3 C5
  go_wp2_with fail
  refine (C4.out _ _ _ _ R6).mono ?_; rintro e w7 ⟨rfl, rfl⟩
  have q0 : w6.cell? ⟨m, 0, none⟩ = some (.int .i64 D) := by rw [M6.out.cell]; rfl
  have q1 : w6.cell? ⟨m, 1, none⟩ = some (.int .i64 I) := by rw [M6.out.cell]; rfl
  have q2 : w6.cell? ⟨m, 2, none⟩ = some (.int .i64 S) := by rw [M6.out.cell]; rfl
  have z0 : w6.cell? ⟨N, 0, none⟩ = some (.int .i64 0) := by rw [Z6.out.cell]; rfl
  have z1 : w6.cell? ⟨N, 1, none⟩ = some (.int .i64 0) := by rw [Z6.out.cell]; rfl
  have z2 : w6.cell? ⟨N, 2, none⟩ = some (.int .i64 0) := by rw [Z6.out.cell]; rfl
  have f0 := Z6.out.free 0
  have f1 := Z6.out.free 1
  have f2 := Z6.out.free 2
  have hmN : m ≠ N := by omega
  have R6' := Lib.hid R6
  clear R6
  go_wp2
  have zz := ((Z6.out.set_ 0 (.int .i64 D)).set_ 1 (.int .i64 I)).set_ 2 (.int .i64 S)
  have hc : Ch (fun k => k = b) w (((w6.setCell ⟨N, 0, none⟩ (.int .i64 D)).setCell ⟨N, 1, none⟩ (.int .i64 I)).setCell ⟨N, 2, none⟩ (.int .i64 S)) := by
    refine D6.out.trans (((Ch.set_ w6 ⟨N, 0, none⟩ _).trans (Ch.set_ _ ⟨N, 1, none⟩ _) (fun k _ h => h)).trans (Ch.set_ _ ⟨N, 2, none⟩ _) (fun k _ h => h)) (fun k hk h => ?_)
    have h' : k = N := h
    omega
  have hr : Re (((w6.setCell ⟨N, 0, none⟩ (.int .i64 D)).setCell ⟨N, 1, none⟩ (.int .i64 I)).setCell ⟨N, 2, none⟩ (.int .i64 S)) b A4 n4 c4 R 0 := by
    obtain ⟨q1, q2, q3⟩ := R6'.out
    exact ⟨((q1.far (p := ⟨N, 0, none⟩) (by show b ≠ N; omega) _).far (p := ⟨N, 1, none⟩) (by show b ≠ N; omega) _).far (p := ⟨N, 2, none⟩) (by show b ≠ N; omega) _, ((q2.setCell (p := ⟨N, 0, none⟩) (by show b ≤ N; omega) _).setCell (p := ⟨N, 1, none⟩) (by show b ≤ N; omega) _).setCell (p := ⟨N, 2, none⟩) (by show b ≤ N; omega) _, q3⟩
  generalize (((w6.setCell ⟨N, 0, none⟩ (.int .i64 D)).setCell ⟨N, 1, none⟩ (.int .i64 I)).setCell ⟨N, 2, none⟩ (.int .i64 S)) = W9 at *
  have x0 : W9.cell? ⟨N, 0, none⟩ = some (.int .i64 D) := by rw [zz.cell]; rfl
  have x1 : W9.cell? ⟨N, 1, none⟩ = some (.int .i64 I) := by rw [zz.cell]; rfl
  have x2 : W9.cell? ⟨N, 2, none⟩ = some (.int .i64 S) := by rw [zz.cell]; rfl
  exact bodyPost_ret (v := .agg #[.int .i64 D, .int .i64 I, .int .i64 S]) (by simp [results, Try.results109, go_sem, x0, x1, x2]) rfl ⟨A4, n4, c4, rfl, hr, hc⟩
end Go.Proofs.Ytailbppddnegoaa
