/- Layer 16 (dot): awake; the walk of the law DotOrders. -/
import Derived.Test.YtailbppddnegoaaD5
namespace Go.Proofs.Ytailbppddnegoaa
open Go.RowKit
set_option linter.unusedVariables false
set_option maxRecDepth 100000

/-- A new writer. -/
theorem wr_new (w : World) (base : Nat) (h : base ≤ w.heap.size) : Wr (w.alloc (.cells #[.slice none 0 0] 80)) base w.heap.size none 0 [] :=
  ⟨h, Whole.new _ _ _, Own.nil_⟩
set_option maxHeartbeats 1000000 in
theorem awake16_any (w : World) : Calls Try.prog 28 #[] w fun e w' => e = .returned (.bool true) ∧ Below w.heap.size w w' := by
  have C1 := Lib.hid (fun (w : World) (base b : Nat) (h : Wr w base b none 0 []) (hb : base ≤ w.heap.size) => dput_any 3 1 7 w base b none 0 [] h hb (by simp))
  have C2 := Lib.hid (fun (w : World) => dtext_any 3 1 7 (by unfold i64B; omega) (by unfold i64B; omega) (by unfold i64B; omega) w)
  have C3 := Lib.hid (fun (w : World) => right_any 3 1 7 w)
  have hP : ([] : List UInt8) ++ dotP 3 1 7 = [3, 1, 7] := by
    unfold dotP
    rw [if_pos (by decide), vput_small (by decide), vput_small (by decide), vput_small (by decide)]
    rfl
  have hT : bs (dotT 3 1 7) = ⟨#[51, 46, 49, 46, 55]⟩ := by
    unfold dotT txtL
    simp [digL_small, bs]
  have hR : dotB 3 1 7 = true := by decide
  rw [hP] at C1
  rw [hT] at C2
  rw [hR] at C3
  unfold dotV at C1 C2 C3
  clear hP hT hR
  have hb0 : Below w.heap.size w ((w.alloc (.cells #[.int .i64 3, .int .i64 1, .int .i64 7] 27)).alloc (.cells #[.slice none 0 0] 80)) := ((Below.refl _ _).alloc (Nat.le_refl _) _).alloc (by simp) _
  have hD0 := (Whole.new w 27 #[.int .i64 3, .int .i64 1, .int .i64 7]).alloc (.cells #[.slice none 0 0] 80)
  have hW0 := wr_new (w.alloc (.cells #[.int .i64 3, .int .i64 1, .int .i64 7] 27)) w.heap.size (by simp)
  have hs0 : (w.alloc (.cells #[.int .i64 3, .int .i64 1, .int .i64 7] 27)).heap.size = w.heap.size + 1 := by simp
  rw [hs0] at hW0
  have HB := Lib.hid hb0
  have HD := Lib.hid hD0
  have HW := Lib.hid hW0
  clear hb0 hD0 hW0 hs0
  go_enter Try.func28, Try.ntmps28
  go_wp2_with fail
  have hb := HB.out
  have hd := HD.out
  have hw := HW.out
  clear HB HD HW
  generalize ((w.alloc (.cells #[.int .i64 3, .int .i64 1, .int .i64 7] 27)).alloc (.cells #[.slice none 0 0] 80)) = W at *
  refine (C1.out W w.heap.size (w.heap.size + 1) hw hb.size).mono ?_; rintro e w1 ⟨A1, c1, rfl, hw1, st1⟩
  have hd1 := hd.ch st1.1 (by rintro (e | e) <;> simp [bl] at e)
  have hb1 : Below w.heap.size w w1 := hb.trans (st1.1.below (by rintro k hk (e | e); omega; simp [bl] at e) hb.size)
  have x0 : w1.cell? ⟨w.heap.size, 0, none⟩ = some (.int .i64 3) := by rw [hd1.cell]; rfl
  have x1 : w1.cell? ⟨w.heap.size, 1, none⟩ = some (.int .i64 1) := by rw [hd1.cell]; rfl
  have x2 : w1.cell? ⟨w.heap.size, 2, none⟩ = some (.int .i64 7) := by rw [hd1.cell]; rfl
  clear hd hw st1 hb
  have hwH := Lib.hid hw1
  have hdH := Lib.hid hd1
  have hbH := Lib.hid hb1
  clear hw1 hd1 hb1 C1
  go_wp2_with fail
  refine (C2.out _).mono ?_; rintro e w2 ⟨rfl, b2⟩
  have hd2 := hdH.out.below b2 hdH.out.lt
  have y0 : w2.cell? ⟨w.heap.size, 0, none⟩ = some (.int .i64 3) := by rw [hd2.cell]; rfl
  have y1 : w2.cell? ⟨w.heap.size, 1, none⟩ = some (.int .i64 1) := by rw [hd2.cell]; rfl
  have y2 : w2.cell? ⟨w.heap.size, 2, none⟩ = some (.int .i64 7) := by rw [hd2.cell]; rfl
  clear x0 x1 x2
  go_wp2_with fail
  refine (C3.out _).mono ?_; rintro e w3 ⟨rfl, b3⟩
  clear y0 y1 y2
  have b23 := below_step b2 b3
  have C4 := Lib.hid (wbytes_any w3 _ _ _ _ _ (hwH.out.below b23) (by simp))
  have B3 := Lib.hid (below_step hbH.out b23)
  clear b23 b2 b3 hd2
  go_wp2_with fail
  refine (C4.out).mono ?_; rintro e w4 ⟨A4, c4, rfl, o4, b4⟩
  go_wp2
  go_ret
  exact ⟨rfl, below_step B3.out b4⟩
end Go.Proofs.Ytailbppddnegoaa
