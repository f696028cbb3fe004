/- Layer 5 (pack): a nil writer and a nil reader; the walk of the law PackNils. -/
import Derived.Test.YtjlmbdhjpjbneaaP7
namespace Go.Proofs.Ytjlmbdhjpjbneaa
open Go.RowKit
set_option linter.unusedVariables false
set_option maxRecDepth 100000

theorem rint_nil (x : Int) (w : World) : Calls Try.prog 64 #[.pointer none, .int .i64 x] w fun e w' => e = .returned (.int .i64 0) ∧ w = w' := by
  have C0 := Lib.hid (rmay_nil w)
  go_enter Try.func64, Try.ntmps64
  go_wp2_with fail
  refine (C0.out).mono ?_; rintro e w1 ⟨rfl, rfl⟩
  go_wp2
  go_ret
  exact ⟨rfl, rfl⟩
theorem rtext_nil5 (x : Int) (w : World) : Calls Try.prog 65 #[.pointer none, .int .i64 x] w fun e w' => e = .returned (.string ⟨#[]⟩) ∧ w = w' := by
  have C0 := Lib.hid (rmay_nil w)
  go_enter Try.func65, Try.ntmps65
  go_wp2_with fail
  refine (C0.out).mono ?_; rintro e w1 ⟨rfl, rfl⟩
  go_wp2
  go_ret
  exact ⟨rfl, rfl⟩
theorem rflags_nil (x : Int) (w : World) : Calls Try.prog 67 #[.pointer none, .int .i64 x] w fun e w' => e = .returned (.slice none 0 0) ∧ w = w' := by
  have C0 := Lib.hid (rmay_nil w)
  go_enter Try.func67, Try.ntmps67
  go_wp2_with fail
  refine (C0.out).mono ?_; rintro e w1 ⟨rfl, rfl⟩
  go_wp2
  go_ret
  exact ⟨rfl, rfl⟩
theorem rfail_nil (x : Int) (w : World) : Calls Try.prog 78 #[.pointer none, .int .i64 x] w fun e w' => e = .returned (.tuple #[]) ∧ w = w' := by
  go_enter Try.func78, Try.ntmps78
  go_wp2
  first | go_end0 | refine bodyPost_ret (results_none rfl _ _ _) rfl ?_
  exact ⟨rfl, rfl⟩
theorem put_nil (p : Pt) (w : World) : Calls Try.prog 42 #[.pointer none, ptV p] w fun e w' => e = .returned (.tuple #[]) ∧ Below w.heap.size w w' := by
  obtain ⟨k, N, S, FA, fn, fc, fl, most⟩ := p
  have hB := Lib.hid ((Below.refl w.heap.size w).alloc (Nat.le_refl _) (.cells #[.int .i64 k, .int .u64 (N : Int), .string S, .slice FA fn fc, .int .i64 most] 70))
  have C1 := Lib.hid (fun w => wnum_nil (N : Int) w)
  have C2 := Lib.hid (fun x w => wint_nil x w)
  have C3 := Lib.hid (fun w => wtext_nil S w)
  have C4 := Lib.hid (fun w => wflags_nil FA fn fc w)
  generalize hX : IntKind.i64.wrap (N : Int) = X at *
  unfold ptV
  simp only
  by_cases e1 : k = 1
  · subst e1
    go_enter Try.func42, Try.ntmps42
    go_wp2_with fail
    refine (C1.out _).mono ?_; rintro e w1 ⟨rfl, rfl⟩
    go_wp2
    first | go_end0 | refine bodyPost_ret (results_none rfl _ _ _) rfl ?_
    exact ⟨rfl, hB.out⟩
  · have t1 : (k == 1) = false := by simp [e1]
    by_cases e2 : k = 2
    · subst e2
      go_enter Try.func42, Try.ntmps42
      go_wp2_with fail
      refine (C2.out _ _).mono ?_; rintro e w1 ⟨rfl, rfl⟩
      go_wp2
      first | go_end0 | refine bodyPost_ret (results_none rfl _ _ _) rfl ?_
      exact ⟨rfl, hB.out⟩
    · have t2 : (k == 2) = false := by simp [e2]
      by_cases e3 : k = 3
      · subst e3
        go_enter Try.func42, Try.ntmps42
        go_wp2_with fail
        refine (C3.out _).mono ?_; rintro e w1 ⟨rfl, rfl⟩
        go_wp2
        first | go_end0 | refine bodyPost_ret (results_none rfl _ _ _) rfl ?_
        exact ⟨rfl, hB.out⟩
      · have t3 : (k == 3) = false := by simp [e3]
        by_cases e4 : k = 4
        · subst e4
          go_enter Try.func42, Try.ntmps42
          go_wp2_with fail
          refine (C4.out _).mono ?_; rintro e w1 ⟨rfl, rfl⟩
          go_wp2
          first | go_end0 | refine bodyPost_ret (results_none rfl _ _ _) rfl ?_
          exact ⟨rfl, hB.out⟩
        · have t4 : (k == 4) = false := by simp [e4]
          go_enter Try.func42, Try.ntmps42
          go_wp2
          first | go_end0 | refine bodyPost_ret (results_none rfl _ _ _) rfl ?_
          exact ⟨rfl, hB.out⟩
set_option maxHeartbeats 2000000 in
theorem packNils_law (w : World) {v : Value} (hv : IsPart w v) :
    Calls Try.prog 16 #[v] w fun e w' => e = .returned (.bool true) ∧ Below w.heap.size w w' := by
  obtain ⟨p, rfl, hok⟩ := hv
  have C9 := Lib.hid awake05_any
  have CP := Lib.hid (fun w => put_nil p w)
  have hB0 : Below w.heap.size w ((w.alloc (.cells #[.int .i64 p.k, .int .u64 (p.N : Int), .string p.S, .slice p.FA p.fn p.fc, .int .i64 p.most] 70)).alloc (.cells #[.int .i64 p.k, .int .u64 (p.N : Int), .string p.S, .slice p.FA p.fn p.fc, .int .i64 p.most] 70)) := ((Below.refl _ _).alloc (Nat.le_refl _) _).alloc (by simp) _
  have hX := boxes_new w 70 #[.int .i64 p.k, .int .u64 (p.N : Int), .string p.S, .slice p.FA p.fn p.fc, .int .i64 p.most] #[.int .i64 p.k, .int .u64 (p.N : Int), .string p.S, .slice p.FA p.fn p.fc, .int .i64 p.most]
  obtain ⟨_, hsz, h1, h2⟩ := hX
  have hPA : PartsAt ((w.alloc (.cells #[.int .i64 p.k, .int .u64 (p.N : Int), .string p.S, .slice p.FA p.fn p.fc, .int .i64 p.most] 70)).alloc (.cells #[.int .i64 p.k, .int .u64 (p.N : Int), .string p.S, .slice p.FA p.fn p.fc, .int .i64 p.most] 70)) (w.heap.size + 2) (some ⟨w.heap.size + 1, 0, none⟩) 1 (fun _ => p) := by
    intro _
    refine ⟨w.heap.size + 1, 0, rfl, by omega, fun i hi => ?_⟩
    obtain rfl : i = 0 := by omega
    refine ⟨?_, ?_, ?_, ?_, ?_⟩
    all_goals
      simp only [Nat.zero_mul, Nat.zero_add, Nat.add_zero]
      rw [h2.cell]
      rfl
  have CLi := Lib.hid (light_any _ _ _ 1 1 _ hPA (Nat.le_refl _) (by simp [maxLen]) (fun i hi => ⟨hok.2.2.1, by have := hok.2.2.2.2; omega⟩))
  have H1 := Lib.hid h1
  have HB := Lib.hid hB0
  have HZ := Lib.hid hsz
  clear hPA h1 h2 hB0 hsz hok
  unfold ptV at *
  generalize hN : w.heap.size = n at *
  go_enter Try.func16, Try.ntmps16
  go_wp2_with fail
  generalize ((w.alloc (.cells #[.int .i64 p.k, .int .u64 (p.N : Int), .string p.S, .slice p.FA p.fn p.fc, .int .i64 p.most] 70)).alloc (.cells #[.int .i64 p.k, .int .u64 (p.N : Int), .string p.S, .slice p.FA p.fn p.fc, .int .i64 p.most] 70)) = W0 at *
  refine (CLi.out).mono ?_; rintro e w1 ⟨r, rfl, _, rfl⟩
  have hz := HZ.out
  clear CLi HZ
  cases r
  · go_wp2_with fail
    refine (C9.out _).mono ?_; rintro e w2 ⟨rfl, b2⟩
    go_wp2
    go_ret
    exact ⟨rfl, hN ▸ HB.out.trans (below_of_le b2 (by omega))⟩
  have s0 : W0.cell? ⟨n, 0, none⟩ = some (.int .i64 p.k) := by rw [H1.out.cell]; rfl
  have s1 : W0.cell? ⟨n, 1, none⟩ = some (.int .u64 (p.N : Int)) := by rw [H1.out.cell]; rfl
  have s2 : W0.cell? ⟨n, 2, none⟩ = some (.string p.S) := by rw [H1.out.cell]; rfl
  have s3 : W0.cell? ⟨n, 3, none⟩ = some (.slice p.FA p.fn p.fc) := by rw [H1.out.cell]; rfl
  have s4 : W0.cell? ⟨n, 4, none⟩ = some (.int .i64 p.most) := by rw [H1.out.cell]; rfl
  go_wp2_with fail
  refine (CP.out _).mono ?_; rintro e w2 ⟨rfl, b2⟩
  have H2 := Lib.hid (H1.out.below b2 H1.out.lt)
  have B2 := Lib.hid (HB.out.trans (below_of_le b2 (by omega)))
  have hz2 := b2.size
  clear s0 s1 s2 s3 s4 H1 HB b2 CP
  have u1 : w2.cell? ⟨n, 1, none⟩ = some (.int .u64 (p.N : Int)) := by rw [H2.out.cell]; rfl
  have u2 : w2.cell? ⟨n, 2, none⟩ = some (.string p.S) := by rw [H2.out.cell]; rfl
  have u3 : w2.cell? ⟨n, 3, none⟩ = some (.slice p.FA p.fn p.fc) := by rw [H2.out.cell]; rfl
  have u4 : w2.cell? ⟨n, 4, none⟩ = some (.int .i64 p.most) := by rw [H2.out.cell]; rfl
  clear H2
  go_wp2_with fail
  refine (rfail_nil _ w2).mono ?_; rintro e w9 ⟨rfl, rfl⟩
  go_wp2_with fail
  refine (wnum_nil _ w2).mono ?_; rintro e w9 ⟨rfl, rfl⟩
  go_wp2_with fail
  refine (wint_nil _ w2).mono ?_; rintro e w9 ⟨rfl, rfl⟩
  go_wp2_with fail
  refine (wtext_nil _ w2).mono ?_; rintro e w9 ⟨rfl, rfl⟩
  go_wp2_with fail
  refine (wflags_nil _ _ _ w2).mono ?_; rintro e w9 ⟨rfl, rfl⟩
  go_wp2_with fail
  refine (wbytes_nil w2).mono ?_; rintro e w9 ⟨rfl, rfl⟩
  go_wp2_with fail
  refine (rnum_nil _ w2).mono ?_; rintro e w9 ⟨rfl, rfl⟩
  go_wp2_with fail
  refine (rint_nil _ w2).mono ?_; rintro e w9 ⟨rfl, rfl⟩
  go_wp2_with fail
  refine (rtext_nil5 _ w2).mono ?_; rintro e w9 ⟨rfl, rfl⟩
  go_wp2_with fail
  refine (rflags_nil _ w2).mono ?_; rintro e w9 ⟨rfl, rfl⟩
  go_wp2_with fail
  refine (rleft_nil w2).mono ?_; rintro e w9 ⟨rfl, rfl⟩
  go_wp2_with fail
  refine (rerr_nil w2).mono ?_; rintro e w9 ⟨rfl, rfl⟩
  go_wp2_with fail
  refine (rend_nil w2).mono ?_; rintro e w9 ⟨rfl, rfl⟩
  go_wp2_with fail
  refine (C9.out _).mono ?_; rintro e w3 ⟨rfl, b3⟩
  go_wp2
  go_ret
  exact ⟨rfl, hN ▸ B2.out.trans (below_of_le b3 (by omega))⟩
end Go.Proofs.Ytjlmbdhjpjbneaa
