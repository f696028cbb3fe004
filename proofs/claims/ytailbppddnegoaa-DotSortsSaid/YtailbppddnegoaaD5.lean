/- Layer 16 (dot): Next, Text. -/
import Derived.Test.YtailbppddnegoaaD4
import Derived.Test.YtailbppddnegoaaT2
namespace Go.Proofs.Ytailbppddnegoaa
open Go.RowKit
set_option linter.unusedVariables false
set_option maxRecDepth 100000

/-- A dot's text. -/
def dotT (d i s : Int) : List UInt8 := txtL d ++ [46] ++ txtL i ++ [46] ++ txtL s
theorem txtL_len (n : Int) (h : -9223372036854775808 ≤ n) (h' : n ≤ 9223372036854775807) : (txtL n).length ≤ 21 := by
  unfold txtL
  split
  · have := digL_20 n.natAbs (by omega)
    simp; omega
  · have := digL_20 n.toNat (by omega)
    omega
theorem text_dot (n : Nat) (W0 : World) (d i s x : Int) (h : -9223372036854775808 ≤ x) (h' : x ≤ 9223372036854775807) (w : World) (h0 : Below n W0 w) (h1 : n < w.heap.size) (c0 : w.cell? ⟨n, 0, none⟩ = some (.int .i64 d)) (c1 : w.cell? ⟨n, 1, none⟩ = some (.int .i64 i)) (c2 : w.cell? ⟨n, 2, none⟩ = some (.int .i64 s)) :
    Calls Try.prog 116 #[.int .i64 x] w fun e w' => e = .returned (.string (bs (txtL x))) ∧ Below n W0 w' ∧ n < w'.heap.size ∧ w'.cell? ⟨n, 0, none⟩ = some (.int .i64 d) ∧ w'.cell? ⟨n, 1, none⟩ = some (.int .i64 i) ∧ w'.cell? ⟨n, 2, none⟩ = some (.int .i64 s) := by
  refine (text_any x h h' w).mono ?_
  rintro e w' ⟨rfl, b⟩
  refine ⟨rfl, h0.trans (below_of_le b (by omega)), Nat.lt_of_lt_of_le h1 b.size, ?_, ?_, ?_⟩
  all_goals
    rw [b.cell (by simpa using h1)]
    assumption
theorem dtext_any (d i s : Int) (bd : i64B d) (bi : i64B i) (bs_ : i64B s) (w : World) : Calls Try.prog 88 #[dotV d i s] w fun e w' => e = .returned (.string (bs (dotT d i s))) ∧ Below w.heap.size w w' := by
  have l1 := txtL_len d bd.1 bd.2
  have l2 := txtL_len i bi.1 bi.2
  have l3 := txtL_len s bs_.1 bs_.2
  have C1 := Lib.hid (fun (n : Nat) (w : World) => text_dot n w d i s d bd.1 bd.2)
  have C2 := Lib.hid (fun (n : Nat) (w : World) => text_dot n w d i s i bi.1 bi.2)
  have C3 := Lib.hid (fun (n : Nat) (w : World) => text_dot n w d i s s bs_.1 bs_.2)
  have k1 := fun w => cat_any (P := Try.prog) (txtL d) [46] (by simp; omega) w
  have k2 := fun w => cat_any (P := Try.prog) (txtL d ++ [46]) (txtL i) (by simp; omega) w
  have k3 := fun w => cat_any (P := Try.prog) (txtL d ++ [46] ++ txtL i) [46] (by simp; omega) w
  have k4 := fun w => cat_any (P := Try.prog) (txtL d ++ [46] ++ txtL i ++ [46]) (txtL s) (by simp; omega) w
  unfold dotT
  generalize bs (txtL d ++ [46] ++ txtL i ++ [46] ++ txtL s) = R5 at *
  generalize bs (txtL d ++ [46] ++ txtL i ++ [46]) = R4 at *
  generalize bs (txtL d ++ [46] ++ txtL i) = R3 at *
  generalize bs (txtL d ++ [46]) = R2 at *
  have hb : bs [46] = ⟨#[46]⟩ := rfl
  rw [hb] at k1 k3
  generalize bs (txtL d) = T1 at *
  generalize bs (txtL i) = T2 at *
  generalize bs (txtL s) = T3 at *
  clear l1 l2 l3 hb
  have b0 : Below w.heap.size w (w.alloc (.cells #[.int .i64 d, .int .i64 i, .int .i64 s] 27)) := (Below.refl _ _).alloc (Nat.le_refl _) _
  have hw := Whole.new w 27 #[.int .i64 d, .int .i64 i, .int .i64 s]
  have HB := Lib.hid b0
  have HW := Lib.hid hw
  clear b0 hw
  unfold dotV
  go_enter Try.func88, Try.ntmps88
  go_wp2_with fail
  have hw := HW.out
  have e0 := HB.out
  clear HW HB
  generalize w.alloc (.cells #[.int .i64 d, .int .i64 i, .int .i64 s] 27) = W at *
  generalize hn : w.heap.size = n at *
  have d0 : Below n w W.drew := e0.drew
  have d1 : n < W.drew.heap.size := hw.lt
  have d2 : W.drew.cell? ⟨n, 0, none⟩ = some (.int .i64 d) := by rw [hw.drew.cell]; rfl
  have d3 : W.drew.cell? ⟨n, 1, none⟩ = some (.int .i64 i) := by rw [hw.drew.cell]; rfl
  have d4 : W.drew.cell? ⟨n, 2, none⟩ = some (.int .i64 s) := by rw [hw.drew.cell]; rfl
  clear e0 hw
  go_region_held3 (fun W => Below n w W ∧ n < W.heap.size ∧ W.cell? ⟨n, 0, none⟩ = some (.int .i64 d) ∧ W.cell? ⟨n, 1, none⟩ = some (.int .i64 i) ∧ W.cell? ⟨n, 2, none⟩ = some (.int .i64 s)) (first | with_reducible assumption | exact ⟨by with_reducible assumption, by with_reducible assumption, by with_reducible assumption, by with_reducible assumption, by with_reducible assumption⟩) ((first
    | (go_at_call_of 116 (Value.int .i64 d); refine (C1.out _ _ _ (by with_reducible assumption) (by with_reducible assumption) (by with_reducible assumption) (by with_reducible assumption) (by with_reducible assumption)).mono ?_; rintro e w2 ⟨rfl, p0, p1, p2, p3, p4⟩)
    | (go_at_call_of 116 (Value.int .i64 i); refine (C2.out _ _ _ (by with_reducible assumption) (by with_reducible assumption) (by with_reducible assumption) (by with_reducible assumption) (by with_reducible assumption)).mono ?_; rintro e w3 ⟨rfl, p0, p1, p2, p3, p4⟩)
    | (go_at_call_of 116 (Value.int .i64 s); refine (C3.out _ _ _ (by with_reducible assumption) (by with_reducible assumption) (by with_reducible assumption) (by with_reducible assumption) (by with_reducible assumption)).mono ?_; rintro e w4 ⟨rfl, p0, p1, p2, p3, p4⟩)))
  refine (by assumption : ∀ (a : Act) (w : World), _ → _) _ _ ?_
  go_wp2
  go_ret
  exact ⟨rfl, hn ▸ p0⟩
/-- Two boxes, and a world in which both are left. -/
theorem boxes_new2 (w : World) (t : TypeId) (xs ys : Array Value) : ∀ w1, Below ((w.alloc (.cells xs t)).alloc (.cells ys t)).heap.size ((w.alloc (.cells xs t)).alloc (.cells ys t)) w1 → Below w.heap.size w w1 ∧ Whole w1 w.heap.size t xs ∧ Whole w1 (w.heap.size + 1) t ys := by
  intro w1 b1
  obtain ⟨h0, h1, h2, h3⟩ := boxes_new w t xs ys
  exact ⟨below_step h0 b1, h2.below b1 h2.lt, h3.below b1 h3.lt⟩
/-- 'Next'. -/
def nextV (d i s : Int) : Value := if dotB d i s = true ∧ s ≠ 4294967296 then .tuple #[dotV d i (s + 1), .int .i64 0] else .tuple #[dotV 0 0 0, .int .i64 4]
end Go.Proofs.Ytailbppddnegoaa
