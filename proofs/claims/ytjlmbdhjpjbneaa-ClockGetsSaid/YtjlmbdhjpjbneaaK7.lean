/- Layer 19 (clock): a step of the law, all kinds; awake. -/
import Derived.Test.YtjlmbdhjpjbneaaK6
namespace Go.Proofs.Ytjlmbdhjpjbneaa
open Go.RowKit
set_option linter.unusedVariables false
set_option maxRecDepth 100000

/-- What holds of any clock's numbers. -/
def Inv (W a b c : Int) : Prop := wallB W ∧ wallB a ∧ (0 ≤ b ∧ b ≤ 65535) ∧ inB c 63 = true
/-- The clock behind a step. -/
def stp (k m x y z W a b c : Int) : Int × Int × Int :=
  if k = 1 then (tickW W m, a, b) else if k = 2 then (W, nxA W a b c, nxC W a b c)
  else if k = 3 then (W, if heE W x y z = 0 then hlA a b x y else a, if heE W x y z = 0 then hlC a b x y else b)
  else if k = 4 then (W, rsA a b x y z, rsC a b x y z) else (W, a, b)
theorem lstep_any (k m x y z W a b c : Int) (hi : Inv W a b c) (hm : i64B m) (w : World) (g : Nat) (h : Ck w g W a b c) :
    Calls Try.prog 36 #[gp g, ckV W a b c, spV k m x y z] w fun e w' =>
      e = .returned (.tuple #[ckV (stp k m x y z W a b c).1 (stp k m x y z W a b c).2.1 (stp k m x y z W a b c).2.2 c, .bool true]) ∧ Ck w' g (stp k m x y z W a b c).1 (stp k m x y z W a b c).2.1 (stp k m x y z W a b c).2.2 c ∧ Ch (fun k => k = g) w w' := by
  obtain ⟨h1, h2, h3, h4⟩ := hi
  unfold stp
  by_cases e1 : k = 1
  · subst e1
    exact step1_any W a b c m x y z h1 hm w g h
  · rw [if_neg e1]
    by_cases e2 : k = 2
    · subst e2
      exact step2_any W a b c m x y z h3 w g h
    · rw [if_neg e2]
      by_cases e3 : k = 3
      · subst e3
        exact step3_any W a b c m x y z h1 w g h
      · rw [if_neg e3]
        by_cases e4 : k = 4
        · subst e4
          exact step4_any W a b c m x y z w g h
        · rw [if_neg e4]
          by_cases e5 : k = 5
          · subst e5
            exact step5_any W a b c m x y z h3 w g h
          · exact step0_any W a b c m x y z k (by simp [e1]) (by simp [e2]) (by simp [e3]) (by simp [e4]) (by simp [e5]) w g h
theorem tick_in {W m : Int} (h : wallB W) : wallB (tickW W m) ∧ W ≤ tickW W m := by
  unfold tickW wallB at *
  split <;> omega
theorem hl_in {a b x y z : Int} (h1 : wallB a) (h2 : 0 ≤ b ∧ b ≤ 65535) (hs : stB x y z = true) :
    (wallB (hlA a b x y) ∧ 0 ≤ hlC a b x y ∧ hlC a b x y ≤ 65535) ∧ (a < hlA a b x y ∨ a = hlA a b x y ∧ b ≤ hlC a b x y) ∧ (x < hlA a b x y ∨ x = hlA a b x y ∧ y ≤ hlC a b x y) ∧ (hlA a b x y = a ∨ hlA a b x y = x) := by
  have hl := hlB_iff a b x y
  simp [stB, inB] at hs
  unfold hlA hlC wallB at *
  cases hh : hlB a b x y
  · have : ¬ (a < x ∨ a = x ∧ b < y) := fun h => by rw [hl.2 h] at hh; cases hh
    simp only [Bool.false_eq_true, if_false]
    refine ⟨⟨⟨by omega, by omega⟩, by omega, by omega⟩, .inr ⟨by trivial, Int.le_refl _⟩, by omega, .inl (by trivial)⟩
  · have := hl.1 hh
    simp only [if_true]
    refine ⟨⟨⟨by omega, by omega⟩, by omega, by omega⟩, by omega, .inr ⟨by trivial, Int.le_refl _⟩, .inr (by trivial)⟩
theorem he_ok {W x y z : Int} (h : heE W x y z = 0) : stB x y z = true ∧ x ≤ W + 60000 := by
  unfold heE at h
  cases hs : stB x y z
  · rw [hs] at h; simp at h
  · rw [hs] at h
    simp only [if_true] at h
    refine ⟨rfl, ?_⟩
    by_cases hx : 60000 < x - W
    · rw [if_pos hx] at h; simp at h
    · omega
theorem nx_in {W a b c : Int} (h0 : wallB W) (h1 : wallB a) (h2 : 0 ≤ b ∧ b ≤ 65535) : wallB (nxA W a b c) ∧ (0 ≤ nxC W a b c ∧ nxC W a b c ≤ 65535) ∧ (nxA W a b c = a ∨ nxA W a b c = W) := by
  unfold nxA nxC
  obtain ⟨e1, hp⟩ | ⟨e1, e2, hp⟩ | ⟨e1, e2, hp⟩ := pk_cases W a b c <;> rw [hp] <;> simp <;> unfold wallB at * <;> omega
/-- A stamp that is told is above the last one. -/
theorem pk_above {W a b c : Int} (h : (pkV W a b c).2.2.2 = 0) : (a < (pkV W a b c).1 ∨ a = (pkV W a b c).1 ∧ b < (pkV W a b c).2.1) ∧ nxA W a b c = (pkV W a b c).1 ∧ nxC W a b c = (pkV W a b c).2.1 := by
  unfold nxA nxC
  rw [if_pos h, if_pos h]
  refine ⟨?_, rfl, rfl⟩
  obtain ⟨e1, hp⟩ | ⟨e1, e2, hp⟩ | ⟨e1, e2, hp⟩ := pk_cases W a b c <;> rw [hp] at h ⊢ <;> simp at h ⊢ <;> omega
theorem stp_inv {k m x y z W a b c : Int} (h : Inv W a b c) : Inv (stp k m x y z W a b c).1 (stp k m x y z W a b c).2.1 (stp k m x y z W a b c).2.2 c := by
  obtain ⟨h1, h2, h3, h4⟩ := h
  unfold stp
  split
  · exact ⟨(tick_in h1).1, h2, h3, h4⟩
  · split
    · exact ⟨h1, (nx_in h1 h2 h3).1, (nx_in h1 h2 h3).2.1, h4⟩
    · split
      · by_cases he : heE W x y z = 0
        · simp only [he, if_true]
          have := hl_in h2 h3 (he_ok he).1
          exact ⟨h1, this.1.1, this.1.2, h4⟩
        · simp only [he, if_false]
          exact ⟨h1, h2, h3, h4⟩
      · split
        · unfold rsA rsC
          cases hs : stB x y z
          · exact ⟨h1, h2, h3, h4⟩
          · have := hl_in h2 h3 hs
            exact ⟨h1, this.1.1, this.1.2, h4⟩
        · exact ⟨h1, h2, h3, h4⟩
theorem stp_near {k m x y z W a b c : Int} (hk : k ≠ 4) (h : Inv W a b c) (hn : a - W ≤ 60000) : (stp k m x y z W a b c).2.1 - (stp k m x y z W a b c).1 ≤ 60000 := by
  obtain ⟨h1, h2, h3, h4⟩ := h
  unfold stp
  split
  · have := (tick_in (m := m) h1).2
    simp only
    omega
  · split
    · have := (nx_in (c := c) h1 h2 h3).2.2
      simp only
      omega
    · split
      · by_cases he : heE W x y z = 0
        · simp only [he, if_true]
          have h5 := (hl_in h2 h3 (he_ok he).1).2.2.2
          have h6 := (he_ok he).2
          omega
        · simp only [he, if_false]
          exact hn
      · first | exact hn | (rw [if_neg hk]; exact hn)
theorem awake19_any (w : World) : Calls Try.prog 29 #[] w fun e w' => e = .returned (.bool true) ∧ Below w.heap.size w w' := by
  have C1 := Lib.hid (cnew_yes 3 (by decide) w)
  have C2 := Lib.hid (fun w1 h => tick_any 0 0 0 3 5 (by unfold wallB; omega) (by unfold i64B; omega) w1 w.heap.size h)
  have C3 := Lib.hid (fun w1 h => cnext_any 5 0 0 3 (by omega) w1 w.heap.size h)
  have C4 := Lib.hid (fun w1 h => cnext_any 5 5 0 3 (by omega) w1 w.heap.size h)
  have e1 : tickW 0 5 = 5 := by decide
  have e2 : tickE 0 5 = 0 := by decide
  have e3 : pkV 5 0 0 3 = (5, 0, 3, 0) := by decide
  have e4 : pkV 5 5 0 3 = (5, 1, 3, 0) := by decide
  unfold nxA nxC at C3 C4
  rw [e1, e2] at C2
  rw [e3] at C3
  rw [e4] at C4
  simp only [if_true] at C3 C4
  clear e1 e2 e3 e4
  generalize hn : w.heap.size = n at *
  unfold gp stV at *
  go_enter Try.func29, Try.ntmps29
  go_wp2_with fail
  refine (C1.out).mono ?_; rintro e w1 ⟨rfl, k1, b1⟩
  have hlt := k1.lt
  go_wp2_with fail
  refine (C2.out _ k1).mono ?_; rintro e w2 ⟨rfl, k2, c2⟩
  have HC := Lib.hid ((below_ch (hn.symm ▸ b1) (S := fun k => k = n)).trans c2 (fun k _ h => h))
  clear b1 c2 k1
  go_wp2_with fail
  refine (C3.out _ k2).mono ?_; rintro e w3 ⟨rfl, k3, c3⟩
  have hc3 := Lib.hid ((HC.out.trans c3 (fun k _ h => h)).trans (Ch.alloc_ (fun k => k = n) w3 (.cells #[.int .i64 5, .int .i64 0, .int .i64 3] 43)) (fun k _ h => h))
  have s3 := Lib.hid (Whole.new w3 43 #[.int .i64 5, .int .i64 0, .int .i64 3])
  have k3' : Ck (w3.alloc (.cells #[.int .i64 5, .int .i64 0, .int .i64 3] 43)) n 5 5 0 3 := Whole.alloc k3 _
  have hl3 := k3.lt
  clear HC c3 k2 k3
  go_wp2_with fail
  refine (C4.out _ k3').mono ?_; rintro e w4 ⟨rfl, k4, c4⟩
  have hc4 := Lib.hid ((hc3.out.trans c4 (fun k _ h => h)).trans (Ch.alloc_ (fun k => k = n) w4 (.cells #[.int .i64 5, .int .i64 1, .int .i64 3] 43)) (fun k _ h => h))
  have s4 := Lib.hid ((s3.out.ch c4 (by omega)).alloc (.cells #[.int .i64 5, .int .i64 1, .int .i64 3] 43))
  have s5 := Lib.hid (Whole.new w4 43 #[.int .i64 5, .int .i64 1, .int .i64 3])
  clear hc3 c4 k3' k4 s3
  go_upto_region 5 with (fail)
  generalize (w4.alloc (.cells #[.int .i64 5, .int .i64 1, .int .i64 3] 43)) = w5 at *
  have S4 := s4.out
  have S5 := s5.out
  have q0 : w5.cell? ⟨w3.heap.size, 0, none⟩ = some (.int .i64 5) := by rw [S4.cell]; rfl
  have q1 : w5.cell? ⟨w3.heap.size, 1, none⟩ = some (.int .i64 0) := by rw [S4.cell]; rfl
  have q2 : w5.cell? ⟨w3.heap.size, 2, none⟩ = some (.int .i64 3) := by rw [S4.cell]; rfl
  have p0 : w5.cell? ⟨w4.heap.size, 0, none⟩ = some (.int .i64 5) := by rw [S5.cell]; rfl
  have p1 : w5.cell? ⟨w4.heap.size, 1, none⟩ = some (.int .i64 1) := by rw [S5.cell]; rfl
  have p2 : w5.cell? ⟨w4.heap.size, 2, none⟩ = some (.int .i64 3) := by rw [S5.cell]; rfl
  clear S4 S5 s4 s5
  go_wp2
  go_ret
  exact ⟨rfl, hn ▸ hc4.out.below (by intro k hk h; omega) (Nat.le_refl _)⟩
end Go.Proofs.Ytjlmbdhjpjbneaa
