/- Layer 17 (vector): Raise where the mark may be, Take. -/
import Derived.Test.YtailbppddnegoaaY2
import Derived.WalkSpells
namespace Go.Proofs.Ytailbppddnegoaa
open Go.RowKit
set_option linter.unusedVariables false
set_option maxRecDepth 100000

set_option maxHeartbeats 1000000 in
theorem vcraise_yes (a : Ac) (n : Int) (w : World) (v b : Nat) (M : List Dt) (h : VecIs w v b M) (hr : rightD (a, n) = true) :
    Calls Try.prog 21 #[.pointer (some ⟨v, 0, none⟩), acV a, .int .i64 n] w (RaiseEnd w v b (rraise M a n) (raisedB M a n)) := by
  obtain ⟨d, i⟩ := a
  have ok : acOk (d, i) := acOk_right hr
  generalize hq : mget M (d, i) = q
  have hX : ∀ W W' : World, (W.cell? ⟨v, 0, none⟩ = some (.map (some b)) ∧ (Instr.lookup 114 (.map (some b)) (acV (d, i)) false).run Try.prog W = .ok (.int .i64 q) W ∧ VecIs W v b M) → Below W.heap.size W W' → (W'.cell? ⟨v, 0, none⟩ = some (.map (some b)) ∧ (Instr.lookup 114 (.map (some b)) (acV (d, i)) false).run Try.prog W' = .ok (.int .i64 q) W' ∧ VecIs W' v b M) :=
    fun W W' h b => by
      have hv := h.2.2.up b
      exact ⟨hv.cell, by rw [hv.look ok, hq], hv⟩
  unfold acV at hX
  simp only at hX
  have hx0 : w.cell? ⟨v, 0, none⟩ = some (.map (some b)) ∧ (Instr.lookup 114 (.map (some b)) (acV (d, i)) false).run Try.prog w = .ok (.int .i64 q) w ∧ VecIs w v b M := ⟨h.cell, by rw [h.look ok, hq], h⟩
  unfold acV at hx0
  have H := Lib.hid (St2.new w d i (fun W => W.cell? ⟨v, 0, none⟩ = some (.map (some b)) ∧ (Instr.lookup 114 (.map (some b)) (.agg #[.int .i64 d, .int .i64 i]) false).run Try.prog W = .ok (.int .i64 q) W ∧ VecIs W v b M) hX hx0 25)
  have ST := Lib.hid (fun N W W' => @St2.step w N d i (fun W => W.cell? ⟨v, 0, none⟩ = some (.map (some b)) ∧ (Instr.lookup 114 (.map (some b)) (.agg #[.int .i64 d, .int .i64 i]) false).run Try.prog W = .ok (.int .i64 q) W ∧ VecIs W v b M) W W' hX)
  have UP := Lib.hid (fun (W : World) (hW : VecIs W v b M) => hW.upd (d, i) n hr)
  have CR := Lib.hid (fun N W (hS : St2 w N d i (fun W => W.cell? ⟨v, 0, none⟩ = some (.map (some b)) ∧ (Instr.lookup 114 (.map (some b)) (.agg #[.int .i64 d, .int .i64 i]) false).run Try.prog W = .ok (.int .i64 q) W ∧ VecIs W v b M) W) => (vcright_any (d, i) n W).mono fun e w' (h' : e = _ ∧ Below W.heap.size W w') => And.intro h'.1 (ST.out N _ _ hS h'.2))
  rw [hr] at CR
  unfold acV at CR UP
  simp only at UP
  have hlt := Lib.hid (And.intro h.ltv h.ltb)
  have hrb : raisedB M (d, i) n = decide (q < n) := by unfold raisedB; rw [hr, hq]; rfl
  have hrr : rraise M (d, i) n = if decide (q < n) = true then rset M (d, i) n else M := by unfold rraise; rw [hrb]
  rw [hrb, hrr]
  unfold acV
  simp only
  generalize hN : w.heap.size = N at *
  clear hX hx0 h hr hrb hrr ok hq
  by_cases hlt' : q < n
  · have hd : decide (q < n) = true := decide_eq_true hlt'
    have hd2 : decide (n ≤ q) = false := decide_eq_false (by omega)
    simp only [hd, if_true]
    go_enter Try.func21, Try.ntmps21
    go_wp2_with fail
    obtain ⟨s0, s1, s2, s3, s4, s5, s6⟩ := H.out
    clear H
    generalize (w.alloc (.cells #[.int .i64 d, .int .i64 i] 25)) = W at *
    go_region_held3 (fun W => Below N w W ∧ N + 1 ≤ W.heap.size ∧ W.cell? ⟨N, 0, none⟩ = some (.int .i64 d) ∧ W.cell? ⟨N, 1, none⟩ = some (.int .i64 i) ∧ W.cell? ⟨v, 0, none⟩ = some (.map (some b)) ∧ (Instr.lookup 114 (.map (some b)) (.agg #[.int .i64 d, .int .i64 i]) false).run Try.prog W = .ok (.int .i64 q) W ∧ VecIs W v b M)
      (first | assumption | exact ⟨by assumption, by assumption, by assumption, by assumption, by assumption, by assumption, by assumption⟩ | exact ST.out _ _ _ ⟨by assumption, by assumption, by assumption, by assumption, by assumption, by assumption, by assumption⟩ (Below.drew (Below.refl _ _)))
      ((go_at_call 85; refine (CR.out N _ (by first | assumption | exact ⟨by assumption, by assumption, by assumption, by assumption, by assumption, by assumption, by assumption⟩)).mono ?_; rintro e w1 ⟨rfl, s0, s1, s2, s3, s4, s5, s6⟩))
    refine (by assumption : ∀ (a : Act) (w : World), _ → _) _ _ ?_
    have hz := (by assumption : Below N w _ ∧ N + 1 ≤ _ ∧ _)
    obtain ⟨z0, z1, z2, z3, z4, z5, z6⟩ := hz
    obtain ⟨w5, q5, hv5, hc5⟩ := UP.out _ z6.drew
    have HF := Lib.hid (And.intro z0 (And.intro z1 (And.intro hv5 hc5)))
    have qn : ∀ (w : World), (binOp .eql 114 (.map (some b)) (.map none)).run Try.prog w = .ok (.bool false) w := fun w => run_eql_map_nil w _ _ _ (some b) Try.underlying114
    clear UP z0 z6 hv5 hc5 z5 CR ST
    go_wp2_with fail
    go_region
    go_wp2
    go_ret
    exact ⟨rfl, HF.out.2.2.1, (below_ch (by have := HF.out.1; rw [hN]; exact this.drew)).trans HF.out.2.2.2 (fun k _ h => h)⟩
  · have hd : decide (q < n) = false := decide_eq_false hlt'
    have hd2 : decide (n ≤ q) = true := decide_eq_true (by omega)
    simp only [hd, Bool.false_eq_true, if_false]
    go_enter Try.func21, Try.ntmps21
    go_wp2_with fail
    obtain ⟨s0, s1, s2, s3, s4, s5, s6⟩ := H.out
    clear H
    generalize (w.alloc (.cells #[.int .i64 d, .int .i64 i] 25)) = W at *
    go_region_held3 (fun W => Below N w W ∧ N + 1 ≤ W.heap.size ∧ W.cell? ⟨N, 0, none⟩ = some (.int .i64 d) ∧ W.cell? ⟨N, 1, none⟩ = some (.int .i64 i) ∧ W.cell? ⟨v, 0, none⟩ = some (.map (some b)) ∧ (Instr.lookup 114 (.map (some b)) (.agg #[.int .i64 d, .int .i64 i]) false).run Try.prog W = .ok (.int .i64 q) W ∧ VecIs W v b M)
      (first | assumption | exact ⟨by assumption, by assumption, by assumption, by assumption, by assumption, by assumption, by assumption⟩ | exact ST.out _ _ _ ⟨by assumption, by assumption, by assumption, by assumption, by assumption, by assumption, by assumption⟩ (Below.drew (Below.refl _ _)))
      ((go_at_call 85; refine (CR.out N _ (by first | assumption | exact ⟨by assumption, by assumption, by assumption, by assumption, by assumption, by assumption, by assumption⟩)).mono ?_; rintro e w1 ⟨rfl, s0, s1, s2, s3, s4, s5, s6⟩))
    refine (by assumption : ∀ (a : Act) (w : World), _ → _) _ _ ?_
    have hz := (by assumption : Below N w _ ∧ N + 1 ≤ _ ∧ _)
    obtain ⟨z0, z1, z2, z3, z4, z5, z6⟩ := hz
    have HF := Lib.hid (And.intro z0 z6)
    clear UP z0 z6 z5 CR ST
    go_wp2
    go_ret
    exact ⟨rfl, HF.out.2, below_ch (by rw [hN]; exact HF.out.1)⟩
theorem vcraise_any (a : Ac) (n : Int) (w : World) (v b : Nat) (M : List Dt) (h : VecIs w v b M) :
    Calls Try.prog 21 #[.pointer (some ⟨v, 0, none⟩), acV a, .int .i64 n] w (RaiseEnd w v b (rraise M a n) (raisedB M a n)) := by
  cases hr : rightD (a, n)
  · have e1 : raisedB M a n = false := by unfold raisedB; rw [hr]; rfl
    have e2 : rraise M a n = M := by unfold rraise; rw [e1]; rfl
    rw [e1, e2]
    exact (vcraise_no a n w v b M h hr).mono fun e w' ⟨he, hb⟩ => ⟨he, h.up hb, below_ch hb⟩
  · exact vcraise_yes a n w v b M h hr
end Go.Proofs.Ytailbppddnegoaa
