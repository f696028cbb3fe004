/- Layer 19 (clock): the walk of the law ClockGets. -/
import Derived.Test.YtjlmbdhjpjbneaaK14
namespace Go.Proofs.Ytjlmbdhjpjbneaa
open Go.RowKit
set_option linter.unusedVariables false
set_option maxRecDepth 100000

theorem quietC {P : Program} {f : FuncId} {args : Array Value} {w : World} {n : Nat} {v : Value}
    (h : Calls P f args (w.drewN n) fun e w' => e = .returned v ∧ w.drewN n = w') : Calls P f args (w.drewN n) fun e w'' => e = .returned v ∧ ∃ m, w'' = w.drewN m :=
  h.mono fun _ _ ⟨he, hm⟩ => ⟨he, n, hm.symm⟩
theorem stGV_is (l : List UInt8) (er : Int) : ∃ a b c : Int, stGV l er = stV a b c := by
  unfold stGV
  split
  · exact ⟨_, _, _, rfl⟩
  · exact ⟨_, _, _, rfl⟩
set_option maxHeartbeats 4000000 in
theorem clockGets_in (w : World) (A : Option Addr) (n c : Nat) (l : List UInt8) (hr : Rd w w.heap.size 1 A n (bv l)) (hnc : n ≤ c) (hcm : c ≤ maxLen) (hn : n ≤ 500) (x y z : Int) :
    Calls Try.prog 15 #[.slice A n c, stV x y z] w fun e w' => e = .returned (.bool true) ∧ Below w.heap.size w w' := by
  have hcm' : c ≤ 9223372036854775807 := hcm
  have C1 := Lib.hid (fun (w : World) hr => read_any w A n c l hr hnc hcm)
  have C2 := Lib.hid (fun (w : World) b h => cget_any w b A n c l 0 h)
  have C3 := Lib.hid (fun (w : World) B h1 h4 => rcget_any w B A n c l 0 h1 hnc hcm h4)
  have C4 := Lib.hid cnext_nil
  have C5 := Lib.hid peek_nil
  have C6 := Lib.hid (fun w => tick_nil 1 w)
  have C7 := Lib.hid (fun w => hear_nil x y z w)
  have C8 := Lib.hid (fun w => restore_nil x y z w)
  have CW := Lib.hid wall_nil
  have CL := Lib.hid last_nil
  have C9 := Lib.hid awake19_any
  obtain ⟨a, b, d, hV⟩ := stGV_is l 0
  rw [hV] at C2
  unfold SG at C3
  rw [hV] at C3
  generalize stG l 0 = R at *
  obtain ⟨_, l2, er⟩ := R
  simp only at C2 C3
  clear hV
  unfold stV rdV at *
  have hS := Lib.hid (Whole.new w 43 #[.int .i64 x, .int .i64 y, .int .i64 z])
  have hB := Lib.hid ((Below.refl w.heap.size w).alloc (Nat.le_refl _) (.cells #[.int .i64 x, .int .i64 y, .int .i64 z] 43))
  go_enter Try.func15, Try.ntmps15
  go_wp2_with fail
  generalize hW0 : (w.alloc (.cells #[.int .i64 x, .int .i64 y, .int .i64 z] 43)) = W0 at *
  generalize hN : w.heap.size = N at *
  clear hW0
  have hNl := hS.out.lt
  have hr0 := hr.below hB.out
  refine (C1.out W0 (hr0.more (by omega))).mono ?_; rintro e w1 ⟨rfl, hRe, b1⟩
  have S1 := Lib.hid (hS.out.below b1 hNl)
  have B1 := Lib.hid (hB.out.trans (below_of_le b1 (by omega)))
  have r1 := Lib.hid (hr0.below (below_of_le b1 (by omega)))
  have hs1 := b1.size
  clear hS hB hr0 hr b1 C1
  generalize hrp : W0.heap.size = rp at *
  clear hrp
  go_wp2_with fail
  refine (C2.out w1 rp hRe).mono ?_; rintro e w2 ⟨A2, n2, c2, rfl, hR2, h2⟩
  have hrl := hR2.1.lt
  have S2 := Lib.hid ((S1.out.ch h2 (by show ¬ N = rp; omega)).alloc (.cells #[.int .i64 a, .int .i64 b, .int .i64 d] 43))
  have bw2 : Below N w1 w2 := h2.below (by intro k hk h; have h' : k = rp := h; omega) (by omega)
  have B2 := Lib.hid ((B1.out.trans bw2).alloc (by omega) (.cells #[.int .i64 a, .int .i64 b, .int .i64 d] 43))
  have r2 := ((r1.out.below bw2).alloc (by omega) (.cells #[.int .i64 a, .int .i64 b, .int .i64 d] 43))
  have hR2' := Lib.hid (hR2.below (Below.alloc (Below.refl _ _) (Nat.le_refl _) (.cells #[.int .i64 a, .int .i64 b, .int .i64 d] 43)) hrl)
  have M6 := Lib.hid (Whole.new w2 43 #[.int .i64 a, .int .i64 b, .int .i64 d])
  have hz2 : w2.heap.size < (w2.alloc (.cells #[.int .i64 a, .int .i64 b, .int .i64 d] 43)).heap.size := by simp
  clear hRe h2 bw2 hR2 S1 B1 r1 C2
  go_wp2_with fail
  generalize (w2.alloc (.cells #[.int .i64 a, .int .i64 b, .int .i64 d] 43)) = W2 at *
  generalize w2.heap.size = m6 at *
  refine (C3.out W2 N r2 (by omega)).mono ?_; rintro e w3 ⟨A3, n3, c3, rfl, r3, hnc3, hcm3, b3⟩
  have bX := Below.alloc (Below.alloc (Below.refl w3.heap.size w3) (Nat.le_refl _) (.cells #[.slice A3 n3 c3, .int .i64 er] 108)) (by simp) (.cells #[.int .i64 a, .int .i64 b, .int .i64 d] 43)
  have b3X := below_step b3 bX
  have S3 := Lib.hid (S2.out.below b3X S2.out.lt)
  have B3 := Lib.hid (B2.out.trans (below_of_le b3X (by omega)))
  have hR3 := Lib.hid (hR2'.out.below b3X hR2'.out.1.lt)
  have M6' := Lib.hid (M6.out.below b3X M6.out.lt)
  have hl3 : l2.length = n3 := by have := r3.len; rw [bv_length] at this; exact this
  have M7 := Lib.hid ((Whole.new w3 108 #[.slice A3 n3 c3, .int .i64 er]).alloc (.cells #[.int .i64 a, .int .i64 b, .int .i64 d] 43))
  have M8 := Whole.new (w3.alloc (.cells #[.slice A3 n3 c3, .int .i64 er] 108)) 43 #[.int .i64 a, .int .i64 b, .int .i64 d]
  have hsz8 : (w3.alloc (.cells #[.slice A3 n3 c3, .int .i64 er] 108)).heap.size = w3.heap.size + 1 := by simp
  rw [hsz8] at M8
  have M8' := Lib.hid M8
  have hz3 := b3X.size
  have hcm3' : c3 ≤ 9223372036854775807 := hcm3
  clear M8 hsz8 b3 bX b3X r3 S2 B2 hR2' M6 r2 C3
  go_upto_region 6 with (fail)
  generalize ((w3.alloc (.cells #[.slice A3 n3 c3, .int .i64 er] 108)).alloc (.cells #[.int .i64 a, .int .i64 b, .int .i64 d] 43)) = w4 at *
  generalize w3.heap.size = m7 at *
  have p0 : w4.cell? ⟨m6, 0, none⟩ = some (.int .i64 a) := by rw [M6'.out.cell]; rfl
  have p1 : w4.cell? ⟨m6, 1, none⟩ = some (.int .i64 b) := by rw [M6'.out.cell]; rfl
  have p2 : w4.cell? ⟨m6, 2, none⟩ = some (.int .i64 d) := by rw [M6'.out.cell]; rfl
  have q0 : w4.cell? ⟨m7 + 1, 0, none⟩ = some (.int .i64 a) := by rw [M8'.out.cell]; rfl
  have q1 : w4.cell? ⟨m7 + 1, 1, none⟩ = some (.int .i64 b) := by rw [M8'.out.cell]; rfl
  have q2 : w4.cell? ⟨m7 + 1, 2, none⟩ = some (.int .i64 d) := by rw [M8'.out.cell]; rfl
  have s0 : w4.cell? ⟨m7, 0, none⟩ = some (.slice A3 n3 c3) := by rw [M7.out.cell]; rfl
  have s1 : w4.cell? ⟨m7, 1, none⟩ = some (.int .i64 er) := by rw [M7.out.cell]; rfl
  have CE := Lib.hid (fun k => rerr_any (w4.drewN k) rp A2 n2 c2 l2 er ⟨hR3.out.1.drewN k, hR3.out.2.1.drewN k, hR3.out.2.2⟩)
  have CF := fun k => rleft_any (w4.drewN k) rp A2 n2 c2 l2 er ⟨hR3.out.1.drewN k, hR3.out.2.1.drewN k, hR3.out.2.2⟩
  rw [hl3] at CF
  have CF' := Lib.hid CF
  have ta : (a != a) = false := by simp
  have tb : (b != b) = false := by simp
  have td : (d != d) = false := by simp
  have te : (er != er) = false := by simp
  have tn : ((n3 : Int) != (n3 : Int)) = false := by simp
  clear M6' M7 M8' hR3 CF
  by_cases he : er = 0
  · subst he
    go_quiet ((first | (go_at_call 75; with_reducible exact quietC (CE.out _)) | (go_at_call 76; with_reducible exact quietC (CF'.out _))))
    have S4 := Lib.hid (S3.out.drewN nq)
    have B4 := Lib.hid (below_drewN B3.out nq)
    clear p0 p1 p2 q0 q1 q2 s0 s1 CE CF' ta tb td te tn S3 B3
    have hN5 : N < (w4.drewN nq).heap.size := by show N < w4.heap.size; omega
    generalize w4.drewN nq = w5 at *
    go_wp2_with fail
    refine (C4.out _).mono ?_; rintro e w6 ⟨rfl, b6⟩
    have bX := b6.alloc b6.size (.cells #[.int .i64 0, .int .i64 0, .int .i64 0] 43)
    have S6 := Lib.hid (S4.out.below bX S4.out.lt)
    have B6 := Lib.hid (B4.out.trans (below_of_le bX (by omega)))
    have M6 := Lib.hid (Whole.new w6 43 #[.int .i64 0, .int .i64 0, .int .i64 0])
    have hN6 := bX.size
    clear b6 bX S4 B4 C4
    go_wp2_with fail
    generalize (w6.alloc (.cells #[.int .i64 0, .int .i64 0, .int .i64 0] 43)) = w7 at *
    generalize w6.heap.size = m10 at *
    refine (C5.out _).mono ?_; rintro e w8 ⟨rfl, b8⟩
    have bX := b8.alloc b8.size (.cells #[.int .i64 0, .int .i64 0, .int .i64 0] 43)
    have S8 := Lib.hid (S6.out.below bX S6.out.lt)
    have B8 := Lib.hid (B6.out.trans (below_of_le bX (by omega)))
    have M10 := Lib.hid (M6.out.below bX M6.out.lt)
    have M12 := Lib.hid (Whole.new w8 43 #[.int .i64 0, .int .i64 0, .int .i64 0])
    have hN8 := bX.size
    clear b8 bX S6 B6 M6 C5
    go_upto_region 11 with (fail)
    generalize (w8.alloc (.cells #[.int .i64 0, .int .i64 0, .int .i64 0] 43)) = w9 at *
    generalize w8.heap.size = m12 at *
    have i0 : w9.cell? ⟨m10, 0, none⟩ = some (.int .i64 0) := by rw [M10.out.cell]; rfl
    have i1 : w9.cell? ⟨m10, 1, none⟩ = some (.int .i64 0) := by rw [M10.out.cell]; rfl
    have i2 : w9.cell? ⟨m10, 2, none⟩ = some (.int .i64 0) := by rw [M10.out.cell]; rfl
    have j0 : w9.cell? ⟨m12, 0, none⟩ = some (.int .i64 0) := by rw [M12.out.cell]; rfl
    have j1 : w9.cell? ⟨m12, 1, none⟩ = some (.int .i64 0) := by rw [M12.out.cell]; rfl
    have j2 : w9.cell? ⟨m12, 2, none⟩ = some (.int .i64 0) := by rw [M12.out.cell]; rfl
    go_wp2_with fail
    refine (C6.out _).mono ?_; rintro e w10 ⟨rfl, b10⟩
    have S10 := S8.out.below b10 S8.out.lt
    have B10 := Lib.hid (B8.out.trans (below_of_le b10 (by omega)))
    have hN10 := b10.size
    have k0 : w10.cell? ⟨N, 0, none⟩ = some (.int .i64 x) := by rw [S10.cell]; rfl
    have k1 : w10.cell? ⟨N, 1, none⟩ = some (.int .i64 y) := by rw [S10.cell]; rfl
    have k2 : w10.cell? ⟨N, 2, none⟩ = some (.int .i64 z) := by rw [S10.cell]; rfl
    have S10' := Lib.hid S10
    clear i0 i1 i2 j0 j1 j2 M10 M12 S8 B8 b10 S10
    go_wp2_with fail
    refine (C7.out _).mono ?_; rintro e w11 ⟨rfl, b11⟩
    have S11 := S10'.out.below b11 S10'.out.lt
    have B11 := Lib.hid (B10.out.trans (below_of_le b11 (by omega)))
    have hN11 := b11.size
    have l0 : w11.cell? ⟨N, 0, none⟩ = some (.int .i64 x) := by rw [S11.cell]; rfl
    have l1 : w11.cell? ⟨N, 1, none⟩ = some (.int .i64 y) := by rw [S11.cell]; rfl
    have l2' : w11.cell? ⟨N, 2, none⟩ = some (.int .i64 z) := by rw [S11.cell]; rfl
    clear k0 k1 k2 S10' B10 b11 S11
    go_wp2_with fail
    refine (C8.out _).mono ?_; rintro e w12 ⟨rfl, b12⟩
    have B12 := Lib.hid (B11.out.trans (below_of_le b12 (by omega)))
    have hN12 := b12.size
    clear l0 l1 l2' b12 B11
    go_wp2_with fail
    refine (CW.out _).mono ?_; rintro e w13 ⟨rfl, b13⟩
    have B13 := Lib.hid (B12.out.trans (below_of_le b13 (by omega)))
    have hN13 := b13.size
    go_wp2_with fail
    refine (CL.out _).mono ?_; rintro e w14 ⟨rfl, b14⟩
    have B14 := Lib.hid (B13.out.trans (below_of_le b14 (by omega)))
    have hN14 := b14.size
    go_wp2_with fail
    refine (C9.out _).mono ?_; rintro e w15 ⟨rfl, b15⟩
    go_wp2
    go_ret
    exact ⟨rfl, hN ▸ B14.out.trans (below_of_le b15 (by omega))⟩
  · have tz : (er == 0) = false := by simp [he]
    go_quiet ((first | (go_at_call 75; with_reducible exact quietC (CE.out _)) | (go_at_call 76; with_reducible exact quietC (CF'.out _))))
    have S4 := Lib.hid (S3.out.drewN nq)
    have B4 := Lib.hid (below_drewN B3.out nq)
    clear p0 p1 p2 q0 q1 q2 s0 s1 CE CF' ta tb td te tn S3 B3
    have hN5 : N < (w4.drewN nq).heap.size := by show N < w4.heap.size; omega
    generalize w4.drewN nq = w5 at *
    go_wp2_with fail
    refine (C4.out _).mono ?_; rintro e w6 ⟨rfl, b6⟩
    have bX := b6.alloc b6.size (.cells #[.int .i64 0, .int .i64 0, .int .i64 0] 43)
    have S6 := Lib.hid (S4.out.below bX S4.out.lt)
    have B6 := Lib.hid (B4.out.trans (below_of_le bX (by omega)))
    have M6 := Lib.hid (Whole.new w6 43 #[.int .i64 0, .int .i64 0, .int .i64 0])
    have hN6 := bX.size
    clear b6 bX S4 B4 C4
    go_wp2_with fail
    generalize (w6.alloc (.cells #[.int .i64 0, .int .i64 0, .int .i64 0] 43)) = w7 at *
    generalize w6.heap.size = m10 at *
    refine (C5.out _).mono ?_; rintro e w8 ⟨rfl, b8⟩
    have bX := b8.alloc b8.size (.cells #[.int .i64 0, .int .i64 0, .int .i64 0] 43)
    have S8 := Lib.hid (S6.out.below bX S6.out.lt)
    have B8 := Lib.hid (B6.out.trans (below_of_le bX (by omega)))
    have M10 := Lib.hid (M6.out.below bX M6.out.lt)
    have M12 := Lib.hid (Whole.new w8 43 #[.int .i64 0, .int .i64 0, .int .i64 0])
    have hN8 := bX.size
    clear b8 bX S6 B6 M6 C5
    go_upto_region 11 with (fail)
    generalize (w8.alloc (.cells #[.int .i64 0, .int .i64 0, .int .i64 0] 43)) = w9 at *
    generalize w8.heap.size = m12 at *
    have i0 : w9.cell? ⟨m10, 0, none⟩ = some (.int .i64 0) := by rw [M10.out.cell]; rfl
    have i1 : w9.cell? ⟨m10, 1, none⟩ = some (.int .i64 0) := by rw [M10.out.cell]; rfl
    have i2 : w9.cell? ⟨m10, 2, none⟩ = some (.int .i64 0) := by rw [M10.out.cell]; rfl
    have j0 : w9.cell? ⟨m12, 0, none⟩ = some (.int .i64 0) := by rw [M12.out.cell]; rfl
    have j1 : w9.cell? ⟨m12, 1, none⟩ = some (.int .i64 0) := by rw [M12.out.cell]; rfl
    have j2 : w9.cell? ⟨m12, 2, none⟩ = some (.int .i64 0) := by rw [M12.out.cell]; rfl
    go_wp2_with fail
    refine (C6.out _).mono ?_; rintro e w10 ⟨rfl, b10⟩
    have S10 := S8.out.below b10 S8.out.lt
    have B10 := Lib.hid (B8.out.trans (below_of_le b10 (by omega)))
    have hN10 := b10.size
    have k0 : w10.cell? ⟨N, 0, none⟩ = some (.int .i64 x) := by rw [S10.cell]; rfl
    have k1 : w10.cell? ⟨N, 1, none⟩ = some (.int .i64 y) := by rw [S10.cell]; rfl
    have k2 : w10.cell? ⟨N, 2, none⟩ = some (.int .i64 z) := by rw [S10.cell]; rfl
    have S10' := Lib.hid S10
    clear i0 i1 i2 j0 j1 j2 M10 M12 S8 B8 b10 S10
    go_wp2_with fail
    refine (C7.out _).mono ?_; rintro e w11 ⟨rfl, b11⟩
    have S11 := S10'.out.below b11 S10'.out.lt
    have B11 := Lib.hid (B10.out.trans (below_of_le b11 (by omega)))
    have hN11 := b11.size
    have l0 : w11.cell? ⟨N, 0, none⟩ = some (.int .i64 x) := by rw [S11.cell]; rfl
    have l1 : w11.cell? ⟨N, 1, none⟩ = some (.int .i64 y) := by rw [S11.cell]; rfl
    have l2' : w11.cell? ⟨N, 2, none⟩ = some (.int .i64 z) := by rw [S11.cell]; rfl
    clear k0 k1 k2 S10' B10 b11 S11
    go_wp2_with fail
    refine (C8.out _).mono ?_; rintro e w12 ⟨rfl, b12⟩
    have B12 := Lib.hid (B11.out.trans (below_of_le b12 (by omega)))
    have hN12 := b12.size
    clear l0 l1 l2' b12 B11
    go_wp2_with fail
    refine (CW.out _).mono ?_; rintro e w13 ⟨rfl, b13⟩
    have B13 := Lib.hid (B12.out.trans (below_of_le b13 (by omega)))
    have hN13 := b13.size
    go_wp2_with fail
    refine (CL.out _).mono ?_; rintro e w14 ⟨rfl, b14⟩
    have B14 := Lib.hid (B13.out.trans (below_of_le b14 (by omega)))
    have hN14 := b14.size
    go_wp2_with fail
    refine (C9.out _).mono ?_; rintro e w15 ⟨rfl, b15⟩
    go_wp2
    go_ret
    exact ⟨rfl, hN ▸ B14.out.trans (below_of_le b15 (by omega))⟩
theorem clockGets_law (w : World) {v s : Value} (hv : IsBytes w v) (hs : IsStamp s) :
    Calls Try.prog 15 #[v, s] w fun e w' => e = .returned (.bool true) ∧ Below w.heap.size w w' := by
  obtain ⟨A, n, c, l, rfl, hnc, hc, hr⟩ := hv
  obtain ⟨x, y, z, rfl, _, _, _⟩ := hs
  have hc' : c ≤ 9223372036854775807 := hc
  by_cases hn : n ≤ 500
  · exact clockGets_in w A n c l hr hnc hc hn x y z
  · have h1 : 500 < n := by omega
    have C9 := Lib.hid awake19_any
    have hB := Lib.hid ((Below.refl w.heap.size w).alloc (Nat.le_refl _) (.cells #[.int .i64 x, .int .i64 y, .int .i64 z] 43))
    clear hn hr
    go_enter Try.func15, Try.ntmps15
    go_wp2_with fail
    refine (C9.out _).mono ?_; rintro e w2 ⟨rfl, b2⟩
    go_wp2
    go_ret
    exact ⟨rfl, below_step hB.out b2⟩
end Go.Proofs.Ytjlmbdhjpjbneaa
