/- Layer 17 (vector): New, right, Get, Has. -/
import Derived.Test.YtailbppddnegoaaY0
import Derived.Test.YtailbppddnegoaaE1
import Derived.Deep.RegionHeld3
import Derived.BigRegion
namespace Go.Proofs.Ytailbppddnegoaa
open Go.RowKit
set_option linter.unusedVariables false
set_option maxRecDepth 100000

/-- v points to a vector with the marks M; its map lies in block b. -/
def VecIs (w : World) (v b : Nat) (M : List Dt) : Prop := Whole w v 116 #[.map (some b)] ∧ MapIs Try.prog 25 3 acV acOk w b M ∧ Vw M
section
variable {w w' : World} {v b : Nat} {M : List Dt}
theorem VecIs.ltv (h : VecIs w v b M) : v < w.heap.size := h.1.lt
theorem VecIs.ltb (h : VecIs w v b M) : b < w.heap.size := h.2.1.lt
theorem VecIs.ne (h : VecIs w v b M) : v ≠ b := by
  rintro rfl
  obtain ⟨es, clock, hb, _⟩ := h.2.1.1
  have h1 := h.1
  unfold Whole at h1
  rw [h1] at hb
  cases hb
theorem VecIs.block (h : VecIs w v b M) (h1 : w'.heap[v]? = w.heap[v]?) (h2 : w'.heap[b]? = w.heap[b]?) : VecIs w' v b M := ⟨h1.trans h.1, h.2.1.block h2, h.2.2⟩
theorem VecIs.below {B : Nat} (h : VecIs w v b M) (hb : Below B w w') (h1 : v < B) (h2 : b < B) : VecIs w' v b M := h.block (hb.block v h1) (hb.block b h2)
theorem VecIs.up (h : VecIs w v b M) (hb : Below w.heap.size w w') : VecIs w' v b M := h.below hb h.ltv h.ltb
theorem VecIs.alloc (h : VecIs w v b M) (o : Obj) : VecIs (w.alloc o) v b M := h.up ((Below.refl _ _).alloc (Nat.le_refl _) _)
theorem VecIs.drew (h : VecIs w v b M) : VecIs w.drew v b M := h
theorem VecIs.ch {S : Nat → Prop} (h : VecIs w v b M) (hc : Ch S w w') (h1 : ¬ S v) (h2 : ¬ S b) : VecIs w' v b M := h.block (hc.block v h.ltv h1) (hc.block b h.ltb h2)
theorem VecIs.cell (h : VecIs w v b M) : w.cell? ⟨v, 0, none⟩ = some (.map (some b)) := by rw [h.1.cell]; rfl
theorem VecIs.look (h : VecIs w v b M) {a : Ac} (ha : acOk a) : (Instr.lookup 114 (.map (some b)) (acV a) false).run Try.prog w = .ok (.int .i64 (mget M a)) w :=
  h.2.1.lookup actor_key Try.underlying114 Try.underlying3 (Try.zeroValue3 _) ha
end
/-- p points to a vector with the marks M, or is nil (M is empty then). -/
def VecAt (w : World) (p : Option Addr) (M : List Dt) : Prop := (p = none ∧ M = []) ∨ ∃ v b, p = some ⟨v, 0, none⟩ ∧ VecIs w v b M
theorem VecIs.at_ {w : World} {v b : Nat} {M : List Dt} (h : VecIs w v b M) : VecAt w (some ⟨v, 0, none⟩) M := .inr ⟨v, b, rfl, h⟩
theorem VecAt.nil (w : World) : VecAt w none [] := .inl ⟨rfl, rfl⟩
theorem VecAt.up {w w' : World} {p : Option Addr} {M : List Dt} (h : VecAt w p M) (hb : Below w.heap.size w w') : VecAt w' p M := by
  rcases h with h | ⟨v, b, rfl, h⟩
  · exact .inl h
  · exact .inr ⟨v, b, rfl, h.up hb⟩
theorem VecAt.vw {w : World} {p : Option Addr} {M : List Dt} (h : VecAt w p M) : Vw M := by
  rcases h with ⟨_, rfl⟩ | ⟨v, b, _, h⟩
  · exact Vw.nil
  · exact h.2.2
theorem acOk_of {a : Ac} (h : i64B a.1 ∧ i64B a.2) : acOk a := ⟨wf_of h.1.1 h.1.2, wf_of h.2.1 h.2.2⟩
theorem acOk_right {a : Ac} {n : Int} (h : rightD (a, n) = true) : acOk a := by
  have := (rightD_iff _).1 h
  simp only at this
  exact ⟨wf_of (by omega) (by omega), wf_of (by omega) (by omega)⟩
theorem vcnew_any (w : World) : Calls Try.prog 17 #[] w fun e w' => e = .returned (.pointer (some ⟨w.heap.size + 1, 0, none⟩)) ∧ VecIs w' (w.heap.size + 1) w.heap.size [] ∧ Below w.heap.size w w' := by
  have H : VecIs ((w.alloc (.map #[] 0)).alloc (.cells #[.map (some w.heap.size)] 116)) (w.heap.size + 1) w.heap.size [] := by
    refine ⟨?_, (MapIs.made w).alloc _, Vw.nil⟩
    have := Whole.new (w.alloc (.map #[] 0)) 116 #[.map (some w.heap.size)]
    simpa using this
  have B0 : Below w.heap.size w ((w.alloc (.map #[] 0)).alloc (.cells #[.map (some w.heap.size)] 116)) := ((Below.refl _ _).alloc (Nat.le_refl _) _).alloc (by simp) _
  have HH := Lib.hid (And.intro H B0)
  clear H B0
  have mk : (Instr.makeMap 114 none).run Try.prog w = .ok (.map (some w.heap.size)) (w.alloc (.map #[] 0)) := run_makeMap _ _
  go_enter Try.func17, Try.ntmps17
  go_wp2
  go_ret
  exact ⟨rfl, HH.out.1, HH.out.2⟩
theorem vcright_any (a : Ac) (n : Int) (w : World) : Calls Try.prog 85 #[acV a, .int .i64 n] w fun e w' => e = .returned (.bool (rightD (a, n))) ∧ Below w.heap.size w w' := by
  obtain ⟨d, i⟩ := a
  have C1 := Lib.hid (fun w => right_any d i n w)
  have hr : dotB d i n = rightD ((d, i), n) := rfl
  generalize rightD ((d, i), n) = r at *
  rw [hr] at C1
  clear hr
  unfold dotV at C1
  unfold acV
  have hW := Whole.new w 25 #[.int .i64 d, .int .i64 i]
  have B0 := Lib.hid ((Below.refl w.heap.size w).alloc (Nat.le_refl _) (.cells #[.int .i64 d, .int .i64 i] 25))
  go_enter Try.func85, Try.ntmps85
  go_wp2_with fail
  refine (C1.out _).mono ?_; rintro e w1 ⟨rfl, b1⟩
  go_wp2
  go_ret
  exact ⟨rfl, B0.out.trans (below_of_le b1 (by simp))⟩
theorem vcget_in (a : Ac) (ok : acOk a) (w : World) (v b : Nat) (M : List Dt) (h : VecIs w v b M) :
    Calls Try.prog 26 #[.pointer (some ⟨v, 0, none⟩), acV a] w fun e w' => e = .returned (.int .i64 (mget M a)) ∧ Below w.heap.size w w' := by
  obtain ⟨d, i⟩ := a
  have hW := Whole.new w 25 #[.int .i64 d, .int .i64 i]
  have B0 := Lib.hid ((Below.refl w.heap.size w).alloc (Nat.le_refl _) (.cells #[.int .i64 d, .int .i64 i] 25))
  have hv := h.alloc (.cells #[.int .i64 d, .int .i64 i] 25)
  have H := Lib.hid (And.intro hW hv)
  clear hW hv h
  generalize hq : mget M (d, i) = q
  have HQ := Lib.hid hq
  clear hq
  unfold acV
  go_enter Try.func26, Try.ntmps26
  go_wp2_with fail
  obtain ⟨hW, hv⟩ := H.out
  clear H
  generalize hN : w.heap.size = N at *
  generalize (w.alloc (.cells #[.int .i64 d, .int .i64 i] 25)) = W at *
  have c0 : W.cell? ⟨N, 0, none⟩ = some (.int .i64 d) := by rw [hW.cell]; rfl
  have c1 : W.cell? ⟨N, 1, none⟩ = some (.int .i64 i) := by rw [hW.cell]; rfl
  have c2 := hv.cell
  have lk := hv.drew.look ok
  rw [HQ.out] at lk
  unfold acV at lk
  clear hW hv
  go_region
  go_wp2
  go_ret
  exact ⟨rfl, B0.out.drew⟩
theorem vcget_nil (a : Ac) (w : World) : Calls Try.prog 26 #[.pointer none, acV a] w fun e w' => e = .returned (.int .i64 0) ∧ Below w.heap.size w w' := by
  obtain ⟨d, i⟩ := a
  have B0 := Lib.hid ((Below.refl w.heap.size w).alloc (Nat.le_refl _) (.cells #[.int .i64 d, .int .i64 i] 25))
  unfold acV
  go_enter Try.func26, Try.ntmps26
  go_wp2
  go_ret
  exact ⟨rfl, B0.out⟩
theorem vcget_any (a : Ac) (ok : acOk a) (w : World) (p : Option Addr) (M : List Dt) (h : VecAt w p M) :
    Calls Try.prog 26 #[.pointer p, acV a] w fun e w' => e = .returned (.int .i64 (mget M a)) ∧ Below w.heap.size w w' := by
  rcases h with ⟨rfl, rfl⟩ | ⟨v, b, rfl, h⟩
  · exact vcget_nil a w
  · exact vcget_in a ok w v b M h
/-- A dot lies boxed in block N; beside it X holds. -/
def St3 (w : World) (N : Nat) (d i s : Int) (X : World → Prop) (W : World) : Prop :=
  Below N w W ∧ N + 1 ≤ W.heap.size ∧ W.cell? ⟨N, 0, none⟩ = some (.int .i64 d) ∧ W.cell? ⟨N, 1, none⟩ = some (.int .i64 i) ∧ W.cell? ⟨N, 2, none⟩ = some (.int .i64 s) ∧ X W
theorem St3.step {w : World} {N : Nat} {d i s : Int} {X : World → Prop} {W W' : World} (hX : ∀ W W', X W → Below W.heap.size W W' → X W') (h : St3 w N d i s X W) (b : Below W.heap.size W W') : St3 w N d i s X W' := by
  obtain ⟨h5, h3, h0, h1, h2, h4⟩ := h
  have hs := b.size
  refine ⟨h5.trans (below_of_le b (by omega)), by omega, ?_, ?_, ?_, hX _ _ h4 b⟩
  all_goals
    rw [b.cell (by simp only; omega)]
    assumption
theorem St3.new (w : World) (d i s : Int) (X : World → Prop) (hX : ∀ W W', X W → Below W.heap.size W W' → X W') (h : X w) (t : TypeId) : St3 w w.heap.size d i s X (w.alloc (.cells #[.int .i64 d, .int .i64 i, .int .i64 s] t)) := by
  have hW := Whole.new w t #[.int .i64 d, .int .i64 i, .int .i64 s]
  have B0 := (Below.refl w.heap.size w).alloc (Nat.le_refl _) (.cells #[.int .i64 d, .int .i64 i, .int .i64 s] t)
  refine ⟨B0, by simp, ?_, ?_, ?_, hX _ _ h B0⟩
  all_goals
    rw [hW.cell]
    rfl
/-- Has a vector a dot? -/
def vhasB (M : List Dt) (x : Dt) : Bool := rightD x && decide (x.2 ≤ mget M x.1)
theorem vchas_any (x : Dt) (w : World) (p : Option Addr) (M : List Dt) (h : VecAt w p M) :
    Calls Try.prog 24 #[.pointer p, dtV x] w fun e w' => e = .returned (.bool (vhasB M x)) ∧ Below w.heap.size w w' := by
  obtain ⟨⟨d, i⟩, s⟩ := x
  have hX : ∀ W W', VecAt W p M → Below W.heap.size W W' → VecAt W' p M := fun W W' h b => h.up b
  have H := Lib.hid (St3.new w d i s (fun W => VecAt W p M) hX h 27)
  have ST := Lib.hid (fun N W W' => @St3.step w N d i s (fun W => VecAt W p M) W W' hX)
  generalize hN : w.heap.size = N at *
  have CR := Lib.hid (fun W (hS : St3 w N d i s (fun W => VecAt W p M) W) => (right_any d i s W).mono fun e w' (h' : e = _ ∧ Below W.heap.size W w') => And.intro h'.1 (ST.out N _ _ hS h'.2))
  clear h hX
  cases hr : rightD ((d, i), s)
  · have hr' : dotB d i s = false := hr
    have hz : vhasB M ((d, i), s) = false := by unfold vhasB; rw [hr]; rfl
    rw [hz]
    rw [hr'] at CR
    unfold dtV
    unfold dotV at CR
    clear hr hr' hz
    go_enter Try.func24, Try.ntmps24
    go_wp2_with fail
    have SD := Lib.hid (ST.out _ _ _ H.out (Below.drew (Below.refl _ _)))
    obtain ⟨s0, s1, s2, s3, s4, s5⟩ := H.out
    clear H
    generalize (w.alloc (.cells #[.int .i64 d, .int .i64 i, .int .i64 s] 27)) = W at *
    refine wp_region_any (by kernel_rfl) ?_
    change wpAny _ _ _ _ _ _ _ W.drew
    (refine wpAny_ready (rs := [0]) (by kernel_rfl) (by simp) ?_; refine AllReady.cons rfl (fun K hK => ?_) AllReady.nil)
    go_simp
    refine hK _ _ ?_; clear hK K
    (refine wpAny_ready (rs := [1]) (by kernel_rfl) (by simp) ?_; refine AllReady.cons rfl (fun K hK => ?_) AllReady.nil)
    go_simp
    go_wp2_with (go_at_call 84; refine (CR.out _ SD.out).mono ?_; rintro e w1 ⟨rfl, t0, t1, t2, t3, t4, t5⟩)
    (refine wpAny_ready (rs := [2]) (by kernel_rfl) (by simp) ?_; refine AllReady.cons rfl (fun K hK => ?_) AllReady.nil)
    go_simp
    refine hK _ _ ?_; clear hK K
    (refine wpAny_take (i := 3) (v := undef) rfl (by kernel_rfl) (by kernel_rfl) (by kernel_rfl) (fun _ _ _ h => h) (Or.inr ⟨by rfl, rfl⟩) ?_; refine wpAny_take (i := 4) (v := undef) rfl (by kernel_rfl) (by kernel_rfl) (by kernel_rfl) (fun _ _ _ h => h) (Or.inr ⟨by rfl, rfl⟩) ?_; refine wpAny_take (i := 5) (v := undef) rfl (by kernel_rfl) (by kernel_rfl) (by kernel_rfl) (fun _ _ _ h => h) (Or.inr ⟨by rfl, rfl⟩) ?_; refine wpAny_take (i := 6) (v := undef) rfl (by kernel_rfl) (by kernel_rfl) (by kernel_rfl) (fun _ _ _ h => h) (Or.inr ⟨by rfl, rfl⟩) ?_; refine wpAny_take (i := 7) (v := undef) rfl (by kernel_rfl) (by kernel_rfl) (by kernel_rfl) (fun _ _ _ h => h) (Or.inr ⟨by rfl, rfl⟩) ?_; refine wpAny_take (i := 8) (v := undef) rfl (by kernel_rfl) (by kernel_rfl) (by kernel_rfl) (fun _ _ _ h => h) (Or.inr ⟨by rfl, rfl⟩) ?_; refine wpAny_take (i := 9) (v := undef) rfl (by kernel_rfl) (by kernel_rfl) (by kernel_rfl) (fun _ _ _ h => h) (Or.inr ⟨by rfl, rfl⟩) ?_)
    (refine wpAny_ready (rs := [10]) (by kernel_rfl) (by simp) ?_; refine AllReady.cons rfl (fun K hK => ?_) AllReady.nil)
    go_simp
    refine hK _ _ ?_; clear hK K
    (refine wpAny_ready (rs := [11]) (by kernel_rfl) (by simp) ?_; refine AllReady.cons rfl (fun K hK => ?_) AllReady.nil)
    go_simp
    refine hK _ _ ?_; clear hK K
    refine wpAny_done (by kernel_rfl) ?_ _
    go_wp2
    go_ret
    exact ⟨rfl, t0⟩
  · have hr' : dotB d i s = true := hr
    have hz : vhasB M ((d, i), s) = decide (s ≤ mget M (d, i)) := by unfold vhasB; rw [hr]; rfl
    have ok : acOk (d, i) := acOk_right hr
    have CG := Lib.hid (fun W (hS : St3 w N d i s (fun W => VecAt W p M) W) => (vcget_any (d, i) ok W p M hS.2.2.2.2.2).mono fun e w' (h' : e = _ ∧ Below W.heap.size W w') => And.intro h'.1 (ST.out N _ _ hS h'.2))
    rw [hz]
    generalize mget M (d, i) = q at *
    rw [hr'] at CR
    unfold dtV
    unfold dotV at CR
    unfold acV at CG
    clear hr hr' hz ok
    go_enter Try.func24, Try.ntmps24
    go_wp2_with fail
    obtain ⟨s0, s1, s2, s3, s4, s5⟩ := H.out
    clear H
    generalize (w.alloc (.cells #[.int .i64 d, .int .i64 i, .int .i64 s] 27)) = W at *
    go_region_held3 (fun W => Below N w W ∧ N + 1 ≤ W.heap.size ∧ W.cell? ⟨N, 0, none⟩ = some (.int .i64 d) ∧ W.cell? ⟨N, 1, none⟩ = some (.int .i64 i) ∧ W.cell? ⟨N, 2, none⟩ = some (.int .i64 s) ∧ VecAt W p M)
      (first | assumption | exact ⟨by assumption, by assumption, by assumption, by assumption, by assumption, by assumption⟩ | exact ST.out _ _ _ ⟨by assumption, by assumption, by assumption, by assumption, by assumption, by assumption⟩ (Below.drew (Below.refl _ _)))
      (first | (go_at_call 84; refine (CR.out _ (by first | assumption | exact ⟨by assumption, by assumption, by assumption, by assumption, by assumption, by assumption⟩)).mono ?_; rintro e w1 ⟨rfl, s0, s1, s2, s3, s4, s5⟩) | (go_at_call 26; refine (CG.out _ (by first | assumption | exact ⟨by assumption, by assumption, by assumption, by assumption, by assumption, by assumption⟩)).mono ?_; rintro e w1 ⟨rfl, s0, s1, s2, s3, s4, s5⟩))
    refine (by assumption : ∀ (a : Act) (w : World), _ → _) _ _ ?_
    go_wp2
    go_ret
    have hz := (by assumption : Below N w _ ∧ N + 1 ≤ _ ∧ _)
    exact ⟨rfl, hz.1⟩
end Go.Proofs.Ytailbppddnegoaa
