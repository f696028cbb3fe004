/- Merged: D1, D2, D3. -/
import Derived.Test.YtailbppddnegoaaWW
import Derived.Test.YtailbppddnegoaaProg
import Derived.Deep.RegionHeld3
import Derived.StillTailTactics
import Derived.Laws.StructEq
/- Layer 16 (dot): Actor, Right, Compare, order, Less, Next, by program and by the document. -/
namespace Go.Proofs.Ytailbppddnegoaa
open Go.RowKit
set_option linter.unusedVariables false
set_option maxRecDepth 100000

def i64B (n : Int) : Prop := -9223372036854775808 ≤ n ∧ n ≤ 9223372036854775807
def actV (dev inc : Int) : Value := .agg #[.int .i64 dev, .int .i64 inc]
def dotV (dev inc seq : Int) : Value := .agg #[.int .i64 dev, .int .i64 inc, .int .i64 seq]
def actB (dev inc : Int) : Bool := decide (0 ≤ dev) && decide (dev < 64) && decide (1 ≤ inc) && decide (inc ≤ 1048576)
def dotB (dev inc seq : Int) : Bool := actB dev inc && decide (1 ≤ seq) && decide (seq ≤ 4294967296)

theorem actor_any (dev inc : Int) (w : World) : Calls Try.prog 112 #[actV dev inc] w fun e w' => e = .returned (.bool (actB dev inc)) ∧ Below w.heap.size w w' := by
  unfold actV
  go_enter Try.func112, Try.ntmps112
  go_wp2
  all_goals
    go_ret
    refine ⟨?_, (Below.refl _ _).alloc (Nat.le_refl _) _⟩
    refine ret_bool ?_
    unfold actB
    simp [*]
    try omega
theorem right_any (dev inc seq : Int) (w : World) : Calls Try.prog 84 #[dotV dev inc seq] w fun e w' => e = .returned (.bool (dotB dev inc seq)) ∧ Below w.heap.size w w' := by
  have C1 := Lib.hid (fun w => actor_any dev inc w)
  unfold actV at C1
  unfold dotV
  have B0 : Below w.heap.size w (w.alloc (.cells #[.int .i64 dev, .int .i64 inc, .int .i64 seq] 27)) := (Below.refl _ _).alloc (Nat.le_refl _) _
  have hR : dotB dev inc seq = (actB dev inc && decide (1 ≤ seq) && decide (seq ≤ 4294967296)) := rfl
  rw [hR]
  clear hR
  have B1 := Lib.hid B0
  clear B0
  generalize actB dev inc = q at *
  cases q
  · go_enter Try.func84, Try.ntmps84
    go_wp2_with fail
    refine (C1.out _).mono ?_; rintro e w1 ⟨rfl, b1⟩
    go_wp2
    go_ret
    exact ⟨ret_bool rfl, below_step B1.out b1⟩
  · go_enter Try.func84, Try.ntmps84
    go_wp2_with fail
    refine (C1.out _).mono ?_; rintro e w1 ⟨rfl, b1⟩
    have hW := (Whole.new w 27 #[.int .i64 dev, .int .i64 inc, .int .i64 seq]).below b1 (by simp)
    have hc2 : w1.cell? ⟨w.heap.size, 2, none⟩ = some (.int .i64 seq) := by rw [hW.cell]; rfl
    go_wp2
    all_goals
      go_ret
      refine ⟨ret_bool ?_, below_step B1.out b1⟩
      simp [*]
      try omega
theorem ractor_any (dev inc : Int) (w : World) : Calls Try.prog 111 #[actV dev inc] w fun e w' => e = .returned (.bool (actB dev inc)) ∧ Below w.heap.size w w' := by
  unfold actV
  go_enter Try.func111, Try.ntmps111
  go_wp2
  all_goals
    go_ret
    refine ⟨?_, (Below.refl _ _).alloc (Nat.le_refl _) _⟩
    refine ret_bool ?_
    unfold actB
    simp [*]
    try omega
theorem rright_any (dev inc seq : Int) (w : World) : Calls Try.prog 82 #[dotV dev inc seq] w fun e w' => e = .returned (.bool (dotB dev inc seq)) ∧ Below w.heap.size w w' := by
  have C1 := Lib.hid (fun w => ractor_any dev inc w)
  unfold actV at C1
  unfold dotV
  have B0 : Below w.heap.size w (w.alloc (.cells #[.int .i64 dev, .int .i64 inc, .int .i64 seq] 27)) := (Below.refl _ _).alloc (Nat.le_refl _) _
  have hR : dotB dev inc seq = (actB dev inc && decide (1 ≤ seq) && decide (seq ≤ 4294967296)) := rfl
  rw [hR]
  clear hR
  have B1 := Lib.hid B0
  clear B0
  generalize actB dev inc = q at *
  cases q
  · go_enter Try.func82, Try.ntmps82
    go_wp2_with fail
    refine (C1.out _).mono ?_; rintro e w1 ⟨rfl, b1⟩
    go_wp2
    go_ret
    exact ⟨ret_bool rfl, below_step B1.out b1⟩
  · go_enter Try.func82, Try.ntmps82
    go_wp2_with fail
    refine (C1.out _).mono ?_; rintro e w1 ⟨rfl, b1⟩
    have hW := (Whole.new w 27 #[.int .i64 dev, .int .i64 inc, .int .i64 seq]).below b1 (by simp)
    have hc2 : w1.cell? ⟨w.heap.size, 2, none⟩ = some (.int .i64 seq) := by rw [hW.cell]; rfl
    go_wp2
    all_goals
      go_ret
      refine ⟨ret_bool ?_, below_step B1.out b1⟩
      simp [*]
      try omega
/-- cmp.Compare. -/
def cmpI (a b : Int) : Int := if a < b then -1 else if b < a then 1 else 0
/-- cmp.Or of two. -/
def orI (a b : Int) : Int := if a = 0 then b else a
theorem isNaN_any (a : Int) (w : World) : Calls Try.prog 133 #[.int .i64 a] w fun e w' => e = .returned (.bool false) ∧ w = w' := by
  have h : (a != a) = false := by simp
  go_enter Try.func133, Try.ntmps133
  go_wp2
  go_ret
  exact ⟨rfl, rfl⟩
theorem cmpc_any (a b : Int) (w : World) : Calls Try.prog 121 #[.int .i64 a, .int .i64 b] w fun e w' => e = .returned (.int .i64 (cmpI a b)) ∧ w = w' := by
  have C1 := Lib.hid (isNaN_any a w)
  have C2 := Lib.hid (isNaN_any b w)
  go_enter Try.func121, Try.ntmps121
  go_wp2_with fail
  refine (C1.out).mono ?_; rintro e w1 ⟨rfl, rfl⟩
  go_wp2_with fail
  refine (C2.out).mono ?_; rintro e w1 ⟨rfl, rfl⟩
  go_wp2
  all_goals
    go_ret
    refine ⟨ret_int ?_, rfl⟩
    unfold cmpI
    repeat' split
    all_goals first | rfl | omega
theorem or2_any (a b : Int) (g c B : Nat) (w : World) (hr : Rd w B 1 (some ⟨g, 0, none⟩) 2 [.int .i64 a, .int .i64 b]) :
    Calls Try.prog 120 #[.slice (some ⟨g, 0, none⟩) 2 c] w fun e w' => e = .returned (.int .i64 (orI a b)) ∧ w = w' := by
  obtain ⟨g', o, hA, _, hcell⟩ := hr.2 (by omega)
  injection hA with hA
  injection hA with hA1 hA2
  subst hA1 hA2
  have c0 : w.cell? ⟨g, 0, none⟩ = some (.int .i64 a) := hcell 0 _ rfl
  have c1 : w.cell? ⟨g, 1, none⟩ = some (.int .i64 b) := hcell 1 _ rfl
  clear hr hcell
  go_enter Try.func120, Try.ntmps120
  go_wp2
  go_loop [8] (fun i => ∃ j : Nat, j ≤ 2 ∧ i = .int .i64 j ∧ (0 < j → a = 0) ∧ (1 < j → b = 0)) (fun i => 2 - (intOf i).toNat)
  case atStart => exact ⟨0, by omega, rfl, by omega, by omega⟩
  case round =>
    obtain ⟨j, hj, rfl, h0, h1⟩ := hrel
    have hj3 : j = 0 ∨ j = 1 ∨ j = 2 := by omega
    rcases hj3 with rfl | rfl | rfl
    · by_cases ha : a = 0
      · subst ha
        go_wp2
        go_round
        case rel => exact ⟨1, by omega, rfl, fun _ => by trivial, by omega⟩
        case measure => simp [intOf]
      · have t : (a == 0) = false := by simp; exact ha
        go_wp2
        go_ret
        exact ⟨ret_int (by simp [orI, ha]), rfl⟩
    · have ha := h0 (by omega)
      subst ha
      by_cases hb : b = 0
      · subst hb
        go_wp2
        go_round
        case rel => exact ⟨2, by omega, rfl, fun _ => by trivial, fun _ => by trivial⟩
        case measure => simp [intOf]
      · have t : (b == 0) = false := by simp; exact hb
        go_wp2
        go_ret
        exact ⟨ret_int (by simp [orI]), rfl⟩
    · have ha := h0 (by omega)
      have hb := h1 (by omega)
      subst ha hb
      go_wp2
      go_ret
      exact ⟨ret_int (by simp [orI]), rfl⟩
end Go.Proofs.Ytailbppddnegoaa
/- Layer 16 (dot): Compare, order, Less, Next. -/
namespace Go.Proofs.Ytailbppddnegoaa
open Go.RowKit
set_option linter.unusedVariables false
set_option maxRecDepth 100000

theorem stillL {P : Program} {f : FuncId} {args : Array Value} {w : World} {v : Value}
    (h : Calls P f args w fun e w' => e = .returned v ∧ w = w') : Calls P f args w fun e w'' => e = .returned v ∧ w'' = w :=
  h.mono fun _ _ ⟨he, hm⟩ => ⟨he, hm.symm⟩
/-- Two boxes, one behind the other. -/
def Boxes (w W : World) (t : TypeId) (xs ys : Array Value) : Prop :=
  Below w.heap.size w W ∧ W.heap.size = w.heap.size + 2 ∧ Whole W w.heap.size t xs ∧ Whole W (w.heap.size + 1) t ys
theorem boxes_new (w : World) (t : TypeId) (xs ys : Array Value) : Boxes w ((w.alloc (.cells xs t)).alloc (.cells ys t)) t xs ys := by
  refine ⟨((Below.refl _ _).alloc (Nat.le_refl _) _).alloc (by simp) _, by simp, (Whole.new w t xs).alloc _, ?_⟩
  have := Whole.new (w.alloc (.cells xs t)) t ys
  simpa using this
theorem compare_any (d i d' i' : Int) (w : World) : Calls Try.prog 106 #[actV d i, actV d' i'] w fun e w' => e = .returned (.int .i64 (orI (cmpI d d') (cmpI i i'))) ∧ Below w.heap.size w w' := by
  have C1 := Lib.hid (fun w => cmpc_any d d' w)
  have C2 := Lib.hid (fun w => cmpc_any i i' w)
  have C3 := Lib.hid (fun g c B w hr => or2_any (cmpI d d') (cmpI i i') g c B w hr)
  generalize cmpI d d' = x at *
  generalize cmpI i i' = y at *
  unfold actV
  have hB := boxes_new w 25 #[.int .i64 d, .int .i64 i] #[.int .i64 d', .int .i64 i']
  have hBH := Lib.hid hB
  clear hB
  go_enter Try.func106, Try.ntmps106
  go_wp2_with fail
  obtain ⟨hb, hs, h1, h2⟩ := hBH.out
  have hBl := Lib.hid hb
  clear hb hBH
  generalize (w.alloc (.cells #[.int .i64 d, .int .i64 i] 25)).alloc (.cells #[.int .i64 d', .int .i64 i'] 25) = W at *
  have c0 : W.cell? ⟨w.heap.size, 0, none⟩ = some (.int .i64 d) := by rw [h1.cell]; rfl
  have c1 : W.cell? ⟨w.heap.size, 1, none⟩ = some (.int .i64 i) := by rw [h1.cell]; rfl
  have c2 : W.cell? ⟨w.heap.size + 1, 0, none⟩ = some (.int .i64 d') := by rw [h2.cell]; rfl
  have c3 : W.cell? ⟨w.heap.size + 1, 1, none⟩ = some (.int .i64 i') := by rw [h2.cell]; rfl
  go_still_tail 10, (by kernel_rfl)
  still_call (stillL (C1.out _))
  repeat still_step
  still_call (stillL (C2.out _))
  repeat still_step
  refine wpStill_nil ?_
  change wpList _ _ _ _ _ W.drew
  clear c0 c1 c2 c3 h1 h2
  have hBl2 := Lib.hid (hBl.out.drew)
  clear hBl
  generalize W.drew = W2 at *
  go_wp2_with fail
  refine (C3.out W2.heap.size 2 _ _ (Rd.fresh _ _ _ 2 rfl)).mono ?_; rintro e w3 ⟨rfl, rfl⟩
  go_wp2
  go_ret
  exact ⟨rfl, hBl2.out.alloc hBl2.out.size _⟩
/-- Which of two dots is ahead. -/
def ordI (d i s d' i' s' : Int) : Int := orI (orI (cmpI d d') (cmpI i i')) (cmpI s s')
/-- Two boxed dots, as cells. -/
def TwoDots (n : Nat) (d i s d' i' s' : Int) (w W : World) : Prop :=
  Below n w W ∧ n + 2 ≤ W.heap.size ∧ W.cell? ⟨n, 0, none⟩ = some (.int .i64 d) ∧ W.cell? ⟨n, 1, none⟩ = some (.int .i64 i) ∧ W.cell? ⟨n, 2, none⟩ = some (.int .i64 s) ∧
    W.cell? ⟨n + 1, 0, none⟩ = some (.int .i64 d') ∧ W.cell? ⟨n + 1, 1, none⟩ = some (.int .i64 i') ∧ W.cell? ⟨n + 1, 2, none⟩ = some (.int .i64 s')
theorem TwoDots.step {n : Nat} {d i s d' i' s' : Int} {w W W' : World} (h : TwoDots n d i s d' i' s' w W) (b : Below W.heap.size W W') : TwoDots n d i s d' i' s' w W' := by
  obtain ⟨h0, h1, c0, c1, c2, c3, c4, c5⟩ := h
  have hb := b.size
  refine ⟨h0.trans (below_of_le b (by omega)), by omega, ?_, ?_, ?_, ?_, ?_, ?_⟩
  all_goals
    rw [b.cell (by simp only; omega)]
    assumption
theorem TwoDots.new (w : World) (d i s d' i' s' : Int) (t : TypeId) : TwoDots w.heap.size d i s d' i' s' w ((w.alloc (.cells #[.int .i64 d, .int .i64 i, .int .i64 s] t)).alloc (.cells #[.int .i64 d', .int .i64 i', .int .i64 s'] t)) := by
  obtain ⟨h0, h1, h2, h3⟩ := boxes_new w t #[.int .i64 d, .int .i64 i, .int .i64 s] #[.int .i64 d', .int .i64 i', .int .i64 s']
  refine ⟨h0, by omega, ?_, ?_, ?_, ?_, ?_, ?_⟩
  all_goals first | (rw [h2.cell]; rfl) | (rw [h3.cell]; rfl)
theorem order_any (d i s d' i' s' : Int) (w : World) : Calls Try.prog 92 #[dotV d i s, dotV d' i' s'] w fun e w' => e = .returned (.int .i64 (ordI d i s d' i' s')) ∧ Below w.heap.size w w' := by
  have C1 := Lib.hid (fun n W (h : TwoDots n d i s d' i' s' w W) => (compare_any d i d' i' W).mono fun e w' (h' : e = _ ∧ Below W.heap.size W w') => And.intro h'.1 (h.step h'.2))
  have C2 := Lib.hid (fun w => cmpc_any s s' w)
  have C3 := Lib.hid (fun g c B w hr => or2_any (orI (cmpI d d') (cmpI i i')) (cmpI s s') g c B w hr)
  unfold ordI
  generalize orI (cmpI d d') (cmpI i i') = x at *
  generalize cmpI s s' = y at *
  unfold actV at C1
  unfold dotV
  have hB := Lib.hid (TwoDots.new w d i s d' i' s' 27)
  go_enter Try.func92, Try.ntmps92
  go_wp2_with fail
  have hT := hB.out
  clear hB
  generalize (w.alloc (.cells #[.int .i64 d, .int .i64 i, .int .i64 s] 27)).alloc (.cells #[.int .i64 d', .int .i64 i', .int .i64 s'] 27) = W at *
  generalize hn : w.heap.size = n at *
  obtain ⟨h0, h1, c0, c1, c2, c3, c4, c5⟩ := hT
  go_region_held3 (fun W => Below n w W ∧ n + 2 ≤ W.heap.size ∧ W.cell? ⟨n, 0, none⟩ = some (.int .i64 d) ∧ W.cell? ⟨n, 1, none⟩ = some (.int .i64 i) ∧ W.cell? ⟨n, 2, none⟩ = some (.int .i64 s) ∧
    W.cell? ⟨n + 1, 0, none⟩ = some (.int .i64 d') ∧ W.cell? ⟨n + 1, 1, none⟩ = some (.int .i64 i') ∧ W.cell? ⟨n + 1, 2, none⟩ = some (.int .i64 s')) (first | assumption | exact ⟨by assumption, by assumption, by assumption, by assumption, by assumption, by assumption, by assumption, by assumption⟩ | exact TwoDots.step ⟨by assumption, by assumption, by assumption, by assumption, by assumption, by assumption, by assumption, by assumption⟩ (Below.alloc (Below.refl _ _) (Nat.le_refl _) _) | exact TwoDots.step ⟨by assumption, by assumption, by assumption, by assumption, by assumption, by assumption, by assumption, by assumption⟩ (Below.drew (Below.refl _ _))) ((first | (go_at_call 106; refine (C1.out n _ (by first | assumption | exact ⟨by assumption, by assumption, by assumption, by assumption, by assumption, by assumption, by assumption, by assumption⟩)).mono ?_; rintro e w1 ⟨rfl, s0, s1, s2, s3, s4, s5, s6, s7⟩) | (go_at_call 121; refine (C2.out _).mono ?_; rintro e w1 ⟨rfl, rfl⟩) | (go_at_call 120; refine (C3.out _ _ _ _ (Rd.fresh _ _ _ 2 rfl)).mono ?_; rintro e w1 ⟨rfl, rfl⟩)))
  refine (by assumption : ∀ (a : Act) (w : World), _ → _) _ _ ?_
  go_wp2
  go_ret
  have hz := (by assumption : Below n w _ ∧ n + 2 ≤ _ ∧ _)
  exact ⟨rfl, hn ▸ hz.1⟩
/-- The document's 'Ahead' and 'Less'. -/
def aheadB (d i d' i' : Int) : Bool := if d = d' then decide (i < i') else decide (d < d')
def rlessB (d i s d' i' s' : Int) : Bool := if d = d' ∧ i = i' then decide (s < s') else aheadB d i d' i'
theorem rahead_any (d i d' i' : Int) (w : World) : Calls Try.prog 105 #[actV d i, actV d' i'] w fun e w' => e = .returned (.bool (aheadB d i d' i')) ∧ Below w.heap.size w w' := by
  unfold aheadB actV
  have hB := Lib.hid (boxes_new w 25 #[.int .i64 d, .int .i64 i] #[.int .i64 d', .int .i64 i'])
  by_cases h : d = d'
  · subst h
    have t1 : (d == d) = true := by simp
    rw [if_pos rfl]
    go_enter Try.func105, Try.ntmps105
    go_wp2
    go_ret
    exact ⟨rfl, hB.out.1⟩
  · have t1 : (d == d') = false := by simp; exact h
    rw [if_neg h]
    clear h
    go_enter Try.func105, Try.ntmps105
    go_wp2
    go_ret
    exact ⟨rfl, hB.out.1⟩
end Go.Proofs.Ytailbppddnegoaa
/- Layer 16 (dot): equality of actors and dots; the document's Less; Next. -/
namespace Go.Proofs.Ytailbppddnegoaa
open Go.RowKit
set_option linter.unusedVariables false
set_option maxRecDepth 100000

theorem eqIn_act (k : Nat) (d i d' i' : Int) (w : World) : (Op.equalIn (k + 2) 25 (actV d i) (actV d' i')).run Try.prog w = .ok (decide (d = d' ∧ i = i')) w := by
  unfold actV
  rw [run_equalIn_agg w (k + 1) _ _ _ (by kernel_rfl) (by kernel_rfl)]
  by_cases h1 : d = d' <;> by_cases h2 : i = i' <;> simp [Program.fieldsOf, Try.underlying25, Op.eqFields, go_sem, Try.underlying3, h1, h2]
theorem eqIn_dot (k : Nat) (d i s d' i' s' : Int) (w : World) : (Op.equalIn (k + 3) 27 (dotV d i s) (dotV d' i' s')).run Try.prog w = .ok (decide (d = d' ∧ i = i' ∧ s = s')) w := by
  have h := fun w => eqIn_act k d i d' i' w
  unfold actV at h
  unfold dotV
  rw [run_equalIn_agg w (k + 2) _ _ _ (by kernel_rfl) (by kernel_rfl)]
  by_cases h1 : d = d' <;> by_cases h2 : i = i' <;> by_cases h3 : s = s' <;> simp [Program.fieldsOf, Try.underlying27, Op.eqFields, go_sem, Try.underlying3, h, h1, h2, h3]
theorem neq_act (d i d' i' : Int) (w : World) : (binOp .neq 25 (actV d i) (actV d' i')).run Try.prog w = .ok (.bool (!decide (d = d' ∧ i = i'))) w := by
  have h := eqIn_act 9998 d i d' i' w
  unfold actV at h ⊢
  rw [run_neq_struct, h]
  rfl
theorem eql_act (d i d' i' : Int) (w : World) : (binOp .eql 25 (actV d i) (actV d' i')).run Try.prog w = .ok (.bool (decide (d = d' ∧ i = i'))) w := by
  have h := eqIn_act 9998 d i d' i' w
  unfold actV at h ⊢
  rw [run_eql_struct, h]
  rfl
theorem neq_dot (d i s d' i' s' : Int) (w : World) : (binOp .neq 27 (dotV d i s) (dotV d' i' s')).run Try.prog w = .ok (.bool (!decide (d = d' ∧ i = i' ∧ s = s'))) w := by
  have h := eqIn_dot 9997 d i s d' i' s' w
  unfold dotV at h ⊢
  rw [run_neq_struct, h]
  rfl
theorem eql_dot (d i s d' i' s' : Int) (w : World) : (binOp .eql 27 (dotV d i s) (dotV d' i' s')).run Try.prog w = .ok (.bool (decide (d = d' ∧ i = i' ∧ s = s'))) w := by
  have h := eqIn_dot 9997 d i s d' i' s' w
  unfold dotV at h ⊢
  rw [run_eql_struct, h]
  rfl
theorem rdless_any (d i s d' i' s' : Int) (w : World) : Calls Try.prog 93 #[dotV d i s, dotV d' i' s'] w fun e w' => e = .returned (.bool (rlessB d i s d' i' s')) ∧ Below w.heap.size w w' := by
  have C1 := Lib.hid (fun w => rahead_any d i d' i' w)
  have hn := fun w => neq_act d i d' i' w
  unfold rlessB
  unfold actV at C1 hn
  unfold dotV
  have hB := Lib.hid (TwoDots.new w d i s d' i' s' 27)
  by_cases h : d = d' ∧ i = i'
  · rw [if_pos h]
    simp only [h, decide_true, Bool.not_true, and_self] at hn
    obtain ⟨rfl, rfl⟩ := h
    go_enter Try.func93, Try.ntmps93
    go_wp2_with fail
    go_ret
    exact ⟨rfl, hB.out.1⟩
  · rw [if_neg h]
    simp only [h, decide_false, Bool.not_false] at hn
    generalize aheadB d i d' i' = q at *
    go_enter Try.func93, Try.ntmps93
    go_wp2_with fail
    refine (C1.out _).mono ?_; rintro e w1 ⟨rfl, b1⟩
    go_wp2
    go_ret
    exact ⟨rfl, hB.out.1.trans (below_of_le b1 (by simp; omega))⟩
end Go.Proofs.Ytailbppddnegoaa
