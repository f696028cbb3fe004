/- Layer 19 (clock): Put, Get, and the document's Put. -/
import Derived.Test.YtjlmbdhjpjbneaaK7
import Derived.Test.YtjlmbdhjpjbneaaD10
namespace Go.Proofs.Ytjlmbdhjpjbneaa
open Go.RowKit
set_option linter.unusedVariables false
set_option maxRecDepth 100000

def stP (d i s : Int) : List UInt8 := if stB d i s = true then vput d.toNat ++ (vput i.toNat ++ vput s.toNat) else []
set_option maxHeartbeats 1000000 in
theorem cput_any (d i s : Int) (w : World) (base b : Nat) (A : Option Addr) (c : Nat) (l : List UInt8) (h : Wr w base b A c l) (hbase : base ≤ w.heap.size) (hl : l.length ≤ 900000) :
    Calls Try.prog 68 #[.pointer (some ⟨b, 0, none⟩), stV d i s] w (WEnd0 w base b A (l ++ stP d i s)) := by
  have C1 := Lib.hid (fun w => cright_any d i s w)
  have hP : stP d i s = if stB d i s = true then vput d.toNat ++ (vput i.toNat ++ vput s.toNat) else [] := rfl
  have hB : stB d i s = true → ∃ D I S : Nat, d = D ∧ i = I ∧ s = S ∧ D ≤ 4398046511104 ∧ I ≤ 65535 ∧ S ≤ 63 := by
    intro hb
    simp [stB, inB] at hb
    exact ⟨d.toNat, i.toNat, s.toNat, by omega, by omega, by omega, by omega, by omega, by omega⟩
  rw [hP]
  clear hP
  have hDS : DotS w.heap.size b d i s (w.alloc (.cells #[.int .i64 d, .int .i64 i, .int .i64 s] 43)) := by
    have hw := Whole.new w 43 #[.int .i64 d, .int .i64 i, .int .i64 s]
    refine ⟨hw.lt, Nat.ne_of_gt h.2.1.lt, ?_, ?_, ?_⟩
    all_goals (rw [hw.cell]; rfl)
  have hb0 : Below w.heap.size w (w.alloc (.cells #[.int .i64 d, .int .i64 i, .int .i64 s] 43)) := (Below.refl _ _).alloc (Nat.le_refl _) _
  have hsz : (w.alloc (.cells #[.int .i64 d, .int .i64 i, .int .i64 s] 43)).heap.size = w.heap.size + 1 := by simp
  unfold stV at C1 ⊢
  generalize stB d i s = q at *
  generalize hLL : (l ++ if q = true then vput d.toNat ++ (vput i.toNat ++ vput s.toNat) else []) = LL
  cases q
  · have HB := Lib.hid hb0
    have HL : LL = l := by rw [← hLL]; simp
    subst HL
    have hh := Lib.hid h
    clear hb0 hDS hsz hLL hB h
    go_enter Try.func68, Try.ntmps68
    go_wp2_with fail
    refine (C1.out _).mono ?_; rintro e w1 ⟨rfl, b1⟩
    go_wp2
    have b2 := below_step HB.out b1
    first | go_end0 | refine bodyPost_ret (results_none rfl _ _ _) rfl ?_
    exact ⟨A, c, rfl, hh.out.below b2, WStep.below (WStep.refl _ _ _) b2⟩
  · obtain ⟨D, I, S, rfl, rfl, rfl, hd, hi, hs⟩ := hB rfl
    have HL := Lib.hid (show LL = ((l ++ vput D) ++ vput I) ++ vput S by rw [← hLL]; simp)
    clear hLL
    have hA : bl A ≠ some w.heap.size := by
      intro e
      have := h.2.2.block_lt _ (by rw [ownBlock_bl]; exact e)
      omega
    have l1 := Lib.hid (vput_le (x := D) (by omega))
    have l2 := Lib.hid (vput_le (x := I) (by omega))
    have CN1 := Lib.hid (fun (W : World) (A' : Option Addr) (c' : Nat) (h : Wr W base b A' c' l) => wnum_dot w.heap.size D I S W base b A' c' l D h)
    have CN2 := Lib.hid (fun (W : World) (A' : Option Addr) (c' : Nat) (h : Wr W base b A' c' (l ++ vput D)) => wnum_dot w.heap.size D I S W base b A' c' (l ++ vput D) I h)
    have CN3 := Lib.hid (fun (W : World) (A' : Option Addr) (c' : Nat) (h : Wr W base b A' c' ((l ++ vput D) ++ vput I)) => wnum_dot w.heap.size D I S W base b A' c' ((l ++ vput D) ++ vput I) S h)
    have hS1 := fun (W1 : World) (h1 : Below (w.heap.size + 1) (w.alloc (.cells #[.int .i64 D, .int .i64 I, .int .i64 S] 43)) W1) => (h.below hb0).below (w' := W1) (by rw [hsz]; exact h1)
    have hS2 := fun (W1 : World) (h1 : Below (w.heap.size + 1) (w.alloc (.cells #[.int .i64 D, .int .i64 I, .int .i64 S] 43)) W1) => hDS.below (W' := W1) (by rw [hsz]; exact h1)
    have HB := Lib.hid hb0
    have HS1 := Lib.hid hS1
    have HS2 := Lib.hid hS2
    have HDS := Lib.hid hsz
    clear hb0 hDS hsz hB hS1 hS2
    go_enter Try.func68, Try.ntmps68
    go_wp2_with fail
    refine (C1.out _).mono ?_; rintro e w1 ⟨rfl, b1⟩
    rw [HDS.out] at b1
    have hW1 := HS1.out _ b1
    obtain ⟨s0, s1, s2, s3, s4⟩ := HS2.out _ b1
    have B1 := Lib.hid (HB.out.trans (below_of_le b1 (by omega)))
    clear HS1 HS2 HB b1 HDS
    have hbase1 : base ≤ w1.heap.size := Nat.le_trans hbase B1.out.size
    generalize hn : w.heap.size = n at *
    have len1 : l.length ≤ 1000000 := by omega
    have len2 : (l ++ vput D).length ≤ 1000000 := by have := l1.out; simp; omega
    have len3 : ((l ++ vput D) ++ vput I).length ≤ 1000000 := by have := l1.out; have := l2.out; simp; omega
    have x1 : D < 18446744073709551616 := by omega
    have x2 : I < 18446744073709551616 := by omega
    have x3 : S < 18446744073709551616 := by omega
    have y1 : IntKind.u64.wrap (D : Int) = (D : Int) := by rw [IntKind.wrap_u64]; omega
    have y2 : IntKind.u64.wrap (I : Int) = (I : Int) := by rw [IntKind.wrap_u64]; omega
    have y3 : IntKind.u64.wrap (S : Int) = (S : Int) := by rw [IntKind.wrap_u64]; omega
    clear l1 l2 C1 hd hi hs hl
    generalize ((l ++ vput D) ++ vput I) ++ vput S = L3 at *
    generalize (l ++ vput D) ++ vput I = L2 at *
    generalize l ++ vput D = L1 at *
    go_wp2_with fail
    have hWd : Wr w1.drew base b A c l := hW1
    have hbd : base ≤ w1.drew.heap.size := hbase1
    have d0 : n < w1.drew.heap.size := s0
    have d2 : w1.drew.cell? ⟨n, 0, none⟩ = some (.int .i64 D) := s2
    have d3 : w1.drew.cell? ⟨n, 1, none⟩ = some (.int .i64 I) := s3
    have d4 : w1.drew.cell? ⟨n, 2, none⟩ = some (.int .i64 S) := s4
    clear hW1 hbase1 s0 s2 s3 s4
    go_region_held3 (fun W => n < W.heap.size ∧ n ≠ b ∧ W.cell? ⟨n, 0, none⟩ = some (.int .i64 D) ∧ W.cell? ⟨n, 1, none⟩ = some (.int .i64 I) ∧ W.cell? ⟨n, 2, none⟩ = some (.int .i64 S)) (first | with_reducible assumption | exact ⟨by with_reducible assumption, by with_reducible assumption, by with_reducible assumption, by with_reducible assumption, by with_reducible assumption⟩ | go_keep) ((first
      | (go_at_call_of 79 (Value.int .u64 (D : Int)); refine (CN1.out _ _ _ (by with_reducible assumption) (by with_reducible assumption) (by with_reducible assumption) len1 x1 ⟨by with_reducible assumption, by with_reducible assumption, by with_reducible assumption, by with_reducible assumption, by with_reducible assumption⟩).mono ?_; rintro e w2 ⟨A2, c2, rfl, hW2, st2, hA2, hb2, p0, p1, p2, p3, p4⟩)
      | (go_at_call_of 79 (Value.int .u64 (I : Int)); refine (CN2.out _ _ _ (by with_reducible assumption) (by with_reducible assumption) (by with_reducible assumption) len2 x2 ⟨by with_reducible assumption, by with_reducible assumption, by with_reducible assumption, by with_reducible assumption, by with_reducible assumption⟩).mono ?_; rintro e w3 ⟨A3, c3, rfl, hW3, st3, hA3, hb3, p0, p1, p2, p3, p4⟩)
      | (go_at_call_of 79 (Value.int .u64 (S : Int)); refine (CN3.out _ _ _ (by with_reducible assumption) (by with_reducible assumption) (by with_reducible assumption) len3 x3 ⟨by with_reducible assumption, by with_reducible assumption, by with_reducible assumption, by with_reducible assumption, by with_reducible assumption⟩).mono ?_; rintro e w4 ⟨A4, c4, rfl, hW4, st4, hA4, hb4, p0, p1, p2, p3, p4⟩)))
    first | go_end0 | refine bodyPost_ret (results_none rfl _ _ _) rfl ?_
    have B2 : Below w.heap.size w w1.drew := by rw [hn]; exact B1.out.drew
    refine ⟨A4, c4, rfl, ?_, (WStep.of_below B2 st2).trans (st3.trans st4)⟩
    rw [HL.out]
    exact hW4
theorem rcput_any (d i s : Int) (hq : stB d i s = true) (w : World) : Calls Try.prog 73 #[stV d i s] w (NewB w (stP d i s)) := by
  have hB : ∃ D I S : Nat, d = D ∧ i = I ∧ s = S ∧ D ≤ 4398046511104 ∧ I ≤ 65535 ∧ S ≤ 63 := by
    have hb := hq
    simp [stB, inB] at hb
    exact ⟨d.toNat, i.toNat, s.toNat, by omega, by omega, by omega, by omega, by omega, by omega⟩
  have hP : stP d i s = vput d.toNat ++ (vput i.toNat ++ vput s.toNat) := by unfold stP; rw [if_pos hq]
  obtain ⟨D, I, S, rfl, rfl, rfl, h1, h2, h3⟩ := hB
  rw [hP, ← List.append_assoc]
  simp only [Int.toNat_natCast]
  clear hP hq
  obtain ⟨i0, hi, hz0, hz1, hz2⟩ := info_parts Try.info_by
  have x1 : D < 18446744073709551616 := by omega
  have x2 : I < 18446744073709551616 := by omega
  have x3 : S < 18446744073709551616 := by omega
  have C1 := Lib.hid (fun w => rnum5_any D w x1)
  have C2 := Lib.hid (fun w => rnum5_any I w x2)
  have C3 := Lib.hid (fun w => rnum5_any S w x3)
  have y1 : IntKind.u64.wrap (D : Int) = (D : Int) := by rw [IntKind.wrap_u64]; omega
  have y2 : IntKind.u64.wrap (I : Int) = (I : Int) := by rw [IntKind.wrap_u64]; omega
  have y3 : IntKind.u64.wrap (S : Int) = (S : Int) := by rw [IntKind.wrap_u64]; omega
  have z1 : (D : Int) % 18446744073709551616 = D := by omega
  have z2 : (I : Int) % 18446744073709551616 = I := by omega
  have z3 : (S : Int) % 18446744073709551616 = S := by omega
  have l1 := vput_le x1
  have l2 := vput_le x2
  have l3 := vput_le x3
  have e1 : ∀ W : World, W.alloc (.cells #[.int .i64 D, .int .i64 I, .int .i64 S] 43) = W.alloc (.cells #[.int .i64 D, .int .i64 I, .int .i64 S] 43) := fun _ => rfl
  have hX := Lib.hid (Whole.new w 43 #[.int .i64 D, .int .i64 I, .int .i64 S])
  have hb0 := Lib.hid ((Below.refl w.heap.size w).alloc (Nat.le_refl _) (.cells #[.int .i64 D, .int .i64 I, .int .i64 S] 43))
  unfold stV
  clear h1 h2 h3 x1 x2 x3 e1
  go_enter Try.func73, Try.ntmps73
  go_wp2_with fail
  generalize (w.alloc (.cells #[.int .i64 D, .int .i64 I, .int .i64 S] 43)) = W1 at *
  have hlt := hX.out.lt
  refine (C1.out _).mono ?_; rintro e w2 ⟨A1, c1, rfl, o1, b1⟩
  have s2 := hX.out.below b1 hlt
  have B2 := Lib.hid (hb0.out.trans (below_of_le b1 hb0.out.size))
  have c1' : w2.cell? ⟨w.heap.size, 1, none⟩ = some (.int .i64 I) := by rw [s2.cell]; rfl
  have hz := b1.size
  have o1' := Lib.hid (o1.base_le (b' := w.heap.size + 1) (by omega))
  have s2' := Lib.hid s2
  clear hX hb0 b1 s2 o1 C1
  go_wp2_with fail
  refine (C2.out _).mono ?_; rintro e w3 ⟨A2, c2, rfl, o2, b2⟩
  have s3 := Lib.hid (s2'.out.below b2 (by omega))
  have o3 := o1'.out.below b2 (Nat.le_refl _)
  have B3 := Lib.hid (B2.out.trans (below_of_le b2 (by omega)))
  have hz3 := b2.size
  clear c1' s2' B2 b2 o1'
  go_wp2_with (
    at_builtin
    refine wpList_append_rd _ rfl _ _ 62 rfl (w.heap.size + 1) 5 i0 (.int .u8 0) 1 1 Try.underlying62 hi hz0 hz1 hz2 rfl (by decide) (by decide) A1 (vput D).length c1 (bv (vput D)) rfl o3 w3.heap.size A2 (vput I).length c2 (bv (vput I)) rfl o2.rd (bv_oneCell _) (by omega) (by omega) ?_
    intro A3 c3 w4 o4 b4
    rw [← bv_append] at o4
    have s4 := s3.out.below b4 (by omega)
    have B4 := Lib.hid (B3.out.trans (below_of_le b4 (by omega)))
    have c2' : w4.cell? ⟨w.heap.size, 2, none⟩ = some (.int .i64 S) := by rw [s4.cell]; rfl
    have hz4 := b4.size
    clear s3 s4 B3 b4 o2 o3)
  refine (C3.out _).mono ?_; rintro e w5 ⟨A5, c5, rfl, o5, b5⟩
  have o6 := o4.below b5 (Nat.le_refl _)
  have B5 := Lib.hid (B4.out.trans (below_of_le b5 (by omega)))
  have hz5 := b5.size
  have hL : (vput D).length + (vput I).length = (vput D ++ vput I).length := by simp
  rw [hL] at o6 ⊢
  have hL2 : (vput D ++ vput I).length ≤ 20 := by simp; omega
  clear c2' o4 b5 B4 hL
  generalize vput D ++ vput I = L at *
  go_wp2_with (
    at_builtin
    refine wpList_append_rd _ rfl _ _ 62 rfl (w.heap.size + 1) 5 i0 (.int .u8 0) 1 1 Try.underlying62 hi hz0 hz1 hz2 rfl (by decide) (by decide) A3 L.length c3 (bv L) rfl o6 w5.heap.size A5 (vput S).length c5 (bv (vput S)) rfl o5.rd (bv_oneCell _) (by omega) (by omega) ?_
    intro A7 c7 w7 o7 b7
    rw [← bv_append] at o7
    have B7 := B5.out.trans (below_of_le b7 (by omega)))
  go_ret
  have hL3 : L.length + (vput S).length = (L ++ vput S).length := by simp
  rw [hL3] at o7 ⊢
  exact ⟨A7, c7, rfl, o7.base_le (b' := w.heap.size) (by omega), B7⟩
/-- What clock.Get reads. -/
def stG (l : List UInt8) (er : Int) : (Nat × Nat × Nat) × List UInt8 × Int :=
  ((rnumR 4398046511104 l er).1, (rnumR 65535 (rnumR 4398046511104 l er).2.1 (rnumR 4398046511104 l er).2.2).1, (rnumR 63 (rnumR 65535 (rnumR 4398046511104 l er).2.1 (rnumR 4398046511104 l er).2.2).2.1 (rnumR 65535 (rnumR 4398046511104 l er).2.1 (rnumR 4398046511104 l er).2.2).2.2).1) |> fun x =>
  (x, (rnumR 63 (rnumR 65535 (rnumR 4398046511104 l er).2.1 (rnumR 4398046511104 l er).2.2).2.1 (rnumR 65535 (rnumR 4398046511104 l er).2.1 (rnumR 4398046511104 l er).2.2).2.2).2)
theorem rnumR_le (most : Nat) (l : List UInt8) (er : Int) : (rnumR most l er).1 ≤ most := by
  unfold rnumR
  repeat' split
  all_goals simp
  all_goals omega
def stGV (l : List UInt8) (er : Int) : Value := if (stG l er).2.2 ≠ 0 then stV 0 0 0 else stV (stG l er).1.1 (stG l er).1.2.1 (stG l er).1.2.2
theorem cget_any (w : World) (b : Nat) (A : Option Addr) (n c : Nat) (l : List UInt8) (er : Int) (h : Re w b A n c l er) :
    Calls Try.prog 72 #[.pointer (some ⟨b, 0, none⟩)] w (REnd w b (stG l er).2 (stGV l er)) := by
  have C1 := Lib.hid (fun w A n c h => rnum_any w b A n c l er 4398046511104 h)
  have m1 := rnumR_le 4398046511104 l er
  unfold stGV stG
  simp only
  generalize rnumR 4398046511104 l er = R1 at *
  obtain ⟨v1, l1, r1⟩ := R1
  simp only at *
  have C2 := Lib.hid (fun w A n c h => rnum_any w b A n c l1 r1 65535 h)
  have m2 := rnumR_le 65535 l1 r1
  generalize rnumR 65535 l1 r1 = R2 at *
  obtain ⟨v2, l2, r2⟩ := R2
  simp only at *
  have C3 := Lib.hid (fun w A n c h => rnum_any w b A n c l2 r2 63 h)
  have m3 := rnumR_le 63 l2 r2
  generalize rnumR 63 l2 r2 = R3 at *
  obtain ⟨v3, l3, r3⟩ := R3
  simp only at *
  have C4 := Lib.hid (fun w A n c h => rerr_any w b A n c l3 r3 h)
  have y1 : IntKind.i64.wrap (v1 : Int) = (v1 : Int) := IntWalk.i64_in _ (by omega)
  have y2 : IntKind.i64.wrap (v2 : Int) = (v2 : Int) := IntWalk.i64_in _ (by omega)
  have y3 : IntKind.i64.wrap (v3 : Int) = (v3 : Int) := IntWalk.i64_in _ (by omega)
  have hlt := h.1.lt
  have hbn : w.heap.size ≠ b := by omega
  have hZ := Lib.hid (Whole.new w 43 #[.int .i64 0, .int .i64 0, .int .i64 0])
  have hRe : Re (w.alloc (.cells #[.int .i64 0, .int .i64 0, .int .i64 0] 43)) b A n c l er := ⟨h.1.alloc _, h.2.1.alloc (by omega) _, h.2.2⟩
  have hC := Lib.hid (Ch.alloc_ (fun k => k = b) w (.cells #[.int .i64 0, .int .i64 0, .int .i64 0] 43))
  clear h m1 m2 m3
  unfold stV
  generalize hV : (if r3 ≠ 0 then Value.agg #[.int .i64 0, .int .i64 0, .int .i64 0] else Value.agg #[.int .i64 v1, .int .i64 v2, .int .i64 v3]) = V
  have HV := Lib.hid hV
  clear hV
  go_enter Try.func72, Try.ntmps72
  go_wp2_with fail
  generalize (w.alloc (.cells #[.int .i64 0, .int .i64 0, .int .i64 0] 43)) = W1 at *
  refine (C1.out _ _ _ _ hRe).mono ?_; rintro e w2 ⟨A2, n2, c2, rfl, hR2, h2⟩
  have Z2 := Lib.hid (hZ.out.ch h2 hbn)
  have D2 := Lib.hid (hC.out.trans h2 (fun k _ h => h))
  clear hRe h2 hZ hC
  go_wp2_with fail
  refine (C2.out _ _ _ _ hR2).mono ?_; rintro e w3 ⟨A3, n3, c3, rfl, hR3, h3⟩
  have Z3 := Lib.hid (Z2.out.ch h3 hbn)
  have D3 := Lib.hid (D2.out.trans h3 (fun k _ h => h))
  clear hR2 h3 Z2 D2
  go_wp2_with fail
  refine (C3.out _ _ _ _ hR3).mono ?_; rintro e w4 ⟨A4, n4, c4, rfl, hR4, h4⟩
  have Z4 := Z3.out.ch h4 hbn
  have D4 := Lib.hid (D3.out.trans h4 (fun k _ h => h))
  clear hR3 h4 Z3 D3
  generalize hn : w.heap.size = N at *
  have z0 : w4.cell? ⟨N, 0, none⟩ = some (.int .i64 0) := by rw [Z4.cell]; rfl
  have z1 : w4.cell? ⟨N, 1, none⟩ = some (.int .i64 0) := by rw [Z4.cell]; rfl
  have z2 : w4.cell? ⟨N, 2, none⟩ = some (.int .i64 0) := by rw [Z4.cell]; rfl
  have f0 := Z4.free 0
  have f1 := Z4.free 1
  have f2 := Z4.free 2
  have ZZ := Lib.hid Z4
  have hR4' := Lib.hid hR4
  clear Z4
  go_wp2_with fail
  refine (C4.out _ _ _ _ hR4).mono ?_; rintro e w5 ⟨rfl, rfl⟩
  clear hR4
  have hcf : ∀ (u0 u1 u2 : Value), Ch (fun k => k = b) w (((w4.setCell ⟨N, 0, none⟩ u0).setCell ⟨N, 1, none⟩ u1).setCell ⟨N, 2, none⟩ u2) := by
    intro u0 u1 u2
    refine D4.out.trans (((Ch.set_ w4 ⟨N, 0, none⟩ u0).trans (Ch.set_ _ ⟨N, 1, none⟩ u1) (fun k _ h => h)).trans (Ch.set_ _ ⟨N, 2, none⟩ u2) (fun k _ h => h)) (fun k hk h => ?_)
    have h' : k = N := h
    omega
  have hrf : ∀ (u0 u1 u2 : Value), Re (((w4.setCell ⟨N, 0, none⟩ u0).setCell ⟨N, 1, none⟩ u1).setCell ⟨N, 2, none⟩ u2) b A4 n4 c4 l3 r3 := by
    intro u0 u1 u2
    obtain ⟨q1, q2, q3⟩ := hR4'.out
    exact ⟨((q1.far (p := ⟨N, 0, none⟩) (by show b ≠ N; omega) u0).far (p := ⟨N, 1, none⟩) (by show b ≠ N; omega) u1).far (p := ⟨N, 2, none⟩) (by show b ≠ N; omega) u2, ((q2.setCell (p := ⟨N, 0, none⟩) (by show b ≤ N; omega) u0).setCell (p := ⟨N, 1, none⟩) (by show b ≤ N; omega) u1).setCell (p := ⟨N, 2, none⟩) (by show b ≤ N; omega) u2, q3⟩
  have HC := Lib.hid hcf
  have HR := Lib.hid hrf
  clear hcf hrf D4 hR4'
  by_cases hr : r3 = 0
  · have tr : (r3 != 0) = false := by simp [hr]
    have hv := HV.out
    rw [if_neg (by simp [hr])] at hv
    subst hv
    clear HV
    go_wp2
    have zz := ((ZZ.out.set_ 0 (.int .i64 v1)).set_ 1 (.int .i64 v2)).set_ 2 (.int .i64 v3)
    have hc := HC.out (.int .i64 v1) (.int .i64 v2) (.int .i64 v3)
    have hr := HR.out (.int .i64 v1) (.int .i64 v2) (.int .i64 v3)
    generalize (((w4.setCell ⟨N, 0, none⟩ (.int .i64 v1)).setCell ⟨N, 1, none⟩ (.int .i64 v2)).setCell ⟨N, 2, none⟩ (.int .i64 v3)) = W9 at *
    have x0 : W9.cell? ⟨N, 0, none⟩ = some (.int .i64 v1) := by rw [zz.cell]; rfl
    have x1 : W9.cell? ⟨N, 1, none⟩ = some (.int .i64 v2) := by rw [zz.cell]; rfl
    have x2 : W9.cell? ⟨N, 2, none⟩ = some (.int .i64 v3) := by rw [zz.cell]; rfl
    exact bodyPost_ret (v := .agg #[.int .i64 v1, .int .i64 v2, .int .i64 v3]) (by simp [results, Try.results72, go_sem, x0, x1, x2]) rfl ⟨A4, n4, c4, rfl, hr, hc⟩
  · have tr : (r3 != 0) = true := by simp [hr]
    have hv := HV.out
    rw [if_pos hr] at hv
    subst hv
    clear HV
    go_wp2
    have zz := ((ZZ.out.set_ 0 (.int .i64 0)).set_ 1 (.int .i64 0)).set_ 2 (.int .i64 0)
    have hc := HC.out (.int .i64 0) (.int .i64 0) (.int .i64 0)
    have hr := HR.out (.int .i64 0) (.int .i64 0) (.int .i64 0)
    generalize (((w4.setCell ⟨N, 0, none⟩ (.int .i64 0)).setCell ⟨N, 1, none⟩ (.int .i64 0)).setCell ⟨N, 2, none⟩ (.int .i64 0)) = W9 at *
    have x0 : W9.cell? ⟨N, 0, none⟩ = some (.int .i64 0) := by rw [zz.cell]; rfl
    have x1 : W9.cell? ⟨N, 1, none⟩ = some (.int .i64 0) := by rw [zz.cell]; rfl
    have x2 : W9.cell? ⟨N, 2, none⟩ = some (.int .i64 0) := by rw [zz.cell]; rfl
    exact bodyPost_ret (v := .agg #[.int .i64 0, .int .i64 0, .int .i64 0]) (by simp [results, Try.results72, go_sem, x0, x1, x2]) rfl ⟨A4, n4, c4, rfl, hr, hc⟩
end Go.Proofs.Ytjlmbdhjpjbneaa
