/- Layer 16 (dot): Actor, Right, Compare, order, Less, Next, by program and by the document. -/
import Derived.Test.YtailbppddnegoaaP2
import Derived.Deep.RegionHeld3
namespace Go.Proofs.Ytailbppddnegoaa
open Go.RowKit
set_option linter.unusedVariables false
set_option maxRecDepth 100000

def i64B (n : Int) : Prop := -9223372036854775808 ≤ n ∧ n ≤ 9223372036854775807
def actV (dev inc : Int) : Value := .agg #[.int .i64 dev, .int .i64 inc]
def dotV (dev inc seq : Int) : Value := .agg #[.int .i64 dev, .int .i64 inc, .int .i64 seq]
def actB (dev inc : Int) : Bool := decide (0 ≤ dev) && decide (dev < 64) && decide (1 ≤ inc) && decide (inc ≤ 1048576)
def dotB (dev inc seq : Int) : Bool := actB dev inc && decide (1 ≤ seq) && decide (seq ≤ 4294967296)

theorem actor_any (dev inc : Int) (w : World) : Calls Try.prog 112 #[actV dev inc] w fun e w' => e = .returned (.bool (actB dev inc)) ∧ Below w.heap.size w w' := by
  unfold actV
  go_enter Try.func112, Try.ntmps112
  go_wp2
  all_goals
    go_ret
    refine ⟨?_, (Below.refl _ _).alloc (Nat.le_refl _) _⟩
    refine ret_bool ?_
    unfold actB
    simp [*]
    try omega
theorem right_any (dev inc seq : Int) (w : World) : Calls Try.prog 84 #[dotV dev inc seq] w fun e w' => e = .returned (.bool (dotB dev inc seq)) ∧ Below w.heap.size w w' := by
  have C1 := Lib.hid (fun w => actor_any dev inc w)
  unfold actV at C1
  unfold dotV
  have B0 : Below w.heap.size w (w.alloc (.cells #[.int .i64 dev, .int .i64 inc, .int .i64 seq] 27)) := (Below.refl _ _).alloc (Nat.le_refl _) _
  have hR : dotB dev inc seq = (actB dev inc && decide (1 ≤ seq) && decide (seq ≤ 4294967296)) := rfl
  rw [hR]
  clear hR
  have B1 := Lib.hid B0
  clear B0
  generalize actB dev inc = q at *
  cases q
  · go_enter Try.func84, Try.ntmps84
    go_wp2_with fail
    refine (C1.out _).mono ?_; rintro e w1 ⟨rfl, b1⟩
    go_wp2
    go_ret
    exact ⟨ret_bool rfl, below_step B1.out b1⟩
  · go_enter Try.func84, Try.ntmps84
    go_wp2_with fail
    refine (C1.out _).mono ?_; rintro e w1 ⟨rfl, b1⟩
    have hW := (Whole.new w 27 #[.int .i64 dev, .int .i64 inc, .int .i64 seq]).below b1 (by simp)
    have hc2 : w1.cell? ⟨w.heap.size, 2, none⟩ = some (.int .i64 seq) := by rw [hW.cell]; rfl
    go_wp2
    all_goals
      go_ret
      refine ⟨ret_bool ?_, below_step B1.out b1⟩
      simp [*]
      try omega
theorem ractor_any (dev inc : Int) (w : World) : Calls Try.prog 111 #[actV dev inc] w fun e w' => e = .returned (.bool (actB dev inc)) ∧ Below w.heap.size w w' := by
  unfold actV
  go_enter Try.func111, Try.ntmps111
  go_wp2
  all_goals
    go_ret
    refine ⟨?_, (Below.refl _ _).alloc (Nat.le_refl _) _⟩
    refine ret_bool ?_
    unfold actB
    simp [*]
    try omega
theorem rright_any (dev inc seq : Int) (w : World) : Calls Try.prog 82 #[dotV dev inc seq] w fun e w' => e = .returned (.bool (dotB dev inc seq)) ∧ Below w.heap.size w w' := by
  have C1 := Lib.hid (fun w => ractor_any dev inc w)
  unfold actV at C1
  unfold dotV
  have B0 : Below w.heap.size w (w.alloc (.cells #[.int .i64 dev, .int .i64 inc, .int .i64 seq] 27)) := (Below.refl _ _).alloc (Nat.le_refl _) _
  have hR : dotB dev inc seq = (actB dev inc && decide (1 ≤ seq) && decide (seq ≤ 4294967296)) := rfl
  rw [hR]
  clear hR
  have B1 := Lib.hid B0
  clear B0
  generalize actB dev inc = q at *
  cases q
  · go_enter Try.func82, Try.ntmps82
    go_wp2_with fail
    refine (C1.out _).mono ?_; rintro e w1 ⟨rfl, b1⟩
    go_wp2
    go_ret
    exact ⟨ret_bool rfl, below_step B1.out b1⟩
  · go_enter Try.func82, Try.ntmps82
    go_wp2_with fail
    refine (C1.out _).mono ?_; rintro e w1 ⟨rfl, b1⟩
    have hW := (Whole.new w 27 #[.int .i64 dev, .int .i64 inc, .int .i64 seq]).below b1 (by simp)
    have hc2 : w1.cell? ⟨w.heap.size, 2, none⟩ = some (.int .i64 seq) := by rw [hW.cell]; rfl
    go_wp2
    all_goals
      go_ret
      refine ⟨ret_bool ?_, below_step B1.out b1⟩
      simp [*]
      try omega
/-- cmp.Compare. -/
def cmpI (a b : Int) : Int := if a < b then -1 else if b < a then 1 else 0
/-- cmp.Or of two. -/
def orI (a b : Int) : Int := if a = 0 then b else a
theorem isNaN_any (a : Int) (w : World) : Calls Try.prog 133 #[.int .i64 a] w fun e w' => e = .returned (.bool false) ∧ w = w' := by
  have h : (a != a) = false := by simp
  go_enter Try.func133, Try.ntmps133
  go_wp2
  go_ret
  exact ⟨rfl, rfl⟩
theorem cmpc_any (a b : Int) (w : World) : Calls Try.prog 121 #[.int .i64 a, .int .i64 b] w fun e w' => e = .returned (.int .i64 (cmpI a b)) ∧ w = w' := by
  have C1 := Lib.hid (isNaN_any a w)
  have C2 := Lib.hid (isNaN_any b w)
  go_enter Try.func121, Try.ntmps121
  go_wp2_with fail
  refine (C1.out).mono ?_; rintro e w1 ⟨rfl, rfl⟩
  go_wp2_with fail
  refine (C2.out).mono ?_; rintro e w1 ⟨rfl, rfl⟩
  go_wp2
  all_goals
    go_ret
    refine ⟨ret_int ?_, rfl⟩
    unfold cmpI
    repeat' split
    all_goals first | rfl | omega
theorem or2_any (a b : Int) (g c B : Nat) (w : World) (hr : Rd w B 1 (some ⟨g, 0, none⟩) 2 [.int .i64 a, .int .i64 b]) :
    Calls Try.prog 120 #[.slice (some ⟨g, 0, none⟩) 2 c] w fun e w' => e = .returned (.int .i64 (orI a b)) ∧ w = w' := by
  obtain ⟨g', o, hA, _, hcell⟩ := hr.2 (by omega)
  injection hA with hA
  injection hA with hA1 hA2
  subst hA1 hA2
  have c0 : w.cell? ⟨g, 0, none⟩ = some (.int .i64 a) := hcell 0 _ rfl
  have c1 : w.cell? ⟨g, 1, none⟩ = some (.int .i64 b) := hcell 1 _ rfl
  clear hr hcell
  go_enter Try.func120, Try.ntmps120
  go_wp2
  go_loop [8] (fun i => ∃ j : Nat, j ≤ 2 ∧ i = .int .i64 j ∧ (0 < j → a = 0) ∧ (1 < j → b = 0)) (fun i => 2 - (intOf i).toNat)
  case atStart => exact ⟨0, by omega, rfl, by omega, by omega⟩
  case round =>
    obtain ⟨j, hj, rfl, h0, h1⟩ := hrel
    have hj3 : j = 0 ∨ j = 1 ∨ j = 2 := by omega
    rcases hj3 with rfl | rfl | rfl
    · by_cases ha : a = 0
      · subst ha
        go_wp2
        go_round
        case rel => exact ⟨1, by omega, rfl, fun _ => by trivial, by omega⟩
        case measure => simp [intOf]
      · have t : (a == 0) = false := by simp; exact ha
        go_wp2
        go_ret
        exact ⟨ret_int (by simp [orI, ha]), rfl⟩
    · have ha := h0 (by omega)
      subst ha
      by_cases hb : b = 0
      · subst hb
        go_wp2
        go_round
        case rel => exact ⟨2, by omega, rfl, fun _ => by trivial, fun _ => by trivial⟩
        case measure => simp [intOf]
      · have t : (b == 0) = false := by simp; exact hb
        go_wp2
        go_ret
        exact ⟨ret_int (by simp [orI]), rfl⟩
    · have ha := h0 (by omega)
      have hb := h1 (by omega)
      subst ha hb
      go_wp2
      go_ret
      exact ⟨ret_int (by simp [orI]), rfl⟩
end Go.Proofs.Ytailbppddnegoaa
