/- Merged: Y0, Y1, Y2, Y3, Y4. -/
import Derived.Test.YtailbppddnegoaaQQ
import Derived.Test.YtailbppddnegoaaSS
import Derived.Deep.RegionHeld3
import Derived.BigRegion
import Derived.Deep.DeepCutAuto
import Derived.Deep.DrawnRows
import Derived.WalkSpells
/- Vectors (plain): how many marks there are at most; sums. -/
namespace Go.Proofs.Ytailbppddnegoaa
set_option linter.unusedVariables false

theorem nodup_len : ∀ (N : Nat) (l : List Nat), l.Nodup → (∀ x ∈ l, x < N) → l.length ≤ N
  | 0, [], _, _ => Nat.le_refl _
  | 0, x :: r, _, h => absurd (h x (List.mem_cons_self ..)) (by omega)
  | N + 1, l, hn, h => by
    have h1 := nodup_len N (l.erase N) (hn.erase N) (fun x hx => by
      have hx' := (hn.mem_erase_iff).1 hx
      have := h x hx'.2
      have := hx'.1
      omega)
    rw [List.length_erase] at h1
    split at h1 <;> omega
def acN (a : Ac) : Nat := a.1.toNat * 1048577 + a.2.toNat
theorem Vw.len {M : List Dt} (h : Vw M) : M.length ≤ 67108928 := by
  have hr : ∀ a ∈ M.map (·.1), 0 ≤ a.1 ∧ a.1 < 64 ∧ 1 ≤ a.2 ∧ a.2 ≤ 1048576 := fun a ha => by
    obtain ⟨x, hx, rfl⟩ := List.mem_map.1 ha
    have := (rightD_iff x).1 (h.2 x hx)
    omega
  have hn : ((M.map (·.1)).map acN).Nodup := by
    have h1 := h.1.nodup
    rw [List.nodup_iff_pairwise_ne] at h1 ⊢
    rw [List.pairwise_map]
    refine h1.imp_of_mem fun {a b} ha hb hne he => hne ?_
    have h2 := hr a ha
    have h3 := hr b hb
    unfold acN at he
    exact ac_ext (by omega) (by omega)
  have := nodup_len 67108928 _ hn fun x hx => by
    obtain ⟨a, ha, rfl⟩ := List.mem_map.1 hx
    have := hr a ha
    unfold acN
    omega
  simpa using this
end Go.Proofs.Ytailbppddnegoaa
/- Layer 17 (vector): New, right, Get, Has. -/
namespace Go.Proofs.Ytailbppddnegoaa
open Go.RowKit
set_option linter.unusedVariables false
set_option maxRecDepth 100000

/-- v points to a vector with the marks M; its map lies in block b. -/
def VecIs (w : World) (v b : Nat) (M : List Dt) : Prop := Whole w v 116 #[.map (some b)] ∧ MapIs Try.prog 25 3 acV acOk w b M ∧ Vw M
section
variable {w w' : World} {v b : Nat} {M : List Dt}
theorem VecIs.ltv (h : VecIs w v b M) : v < w.heap.size := h.1.lt
theorem VecIs.ltb (h : VecIs w v b M) : b < w.heap.size := h.2.1.lt
theorem VecIs.ne (h : VecIs w v b M) : v ≠ b := by
  rintro rfl
  obtain ⟨es, clock, hb, _⟩ := h.2.1.1
  have h1 := h.1
  unfold Whole at h1
  rw [h1] at hb
  cases hb
theorem VecIs.block (h : VecIs w v b M) (h1 : w'.heap[v]? = w.heap[v]?) (h2 : w'.heap[b]? = w.heap[b]?) : VecIs w' v b M := ⟨h1.trans h.1, h.2.1.block h2, h.2.2⟩
theorem VecIs.below {B : Nat} (h : VecIs w v b M) (hb : Below B w w') (h1 : v < B) (h2 : b < B) : VecIs w' v b M := h.block (hb.block v h1) (hb.block b h2)
theorem VecIs.up (h : VecIs w v b M) (hb : Below w.heap.size w w') : VecIs w' v b M := h.below hb h.ltv h.ltb
theorem VecIs.alloc (h : VecIs w v b M) (o : Obj) : VecIs (w.alloc o) v b M := h.up ((Below.refl _ _).alloc (Nat.le_refl _) _)
theorem VecIs.drew (h : VecIs w v b M) : VecIs w.drew v b M := h
theorem VecIs.ch {S : Nat → Prop} (h : VecIs w v b M) (hc : Ch S w w') (h1 : ¬ S v) (h2 : ¬ S b) : VecIs w' v b M := h.block (hc.block v h.ltv h1) (hc.block b h.ltb h2)
theorem VecIs.cell (h : VecIs w v b M) : w.cell? ⟨v, 0, none⟩ = some (.map (some b)) := by rw [h.1.cell]; rfl
theorem VecIs.look (h : VecIs w v b M) {a : Ac} (ha : acOk a) : (Instr.lookup 114 (.map (some b)) (acV a) false).run Try.prog w = .ok (.int .i64 (mget M a)) w :=
  h.2.1.lookup actor_key Try.underlying114 Try.underlying3 (Try.zeroValue3 _) ha
end
/-- p points to a vector with the marks M, or is nil (M is empty then). -/
def VecAt (w : World) (p : Option Addr) (M : List Dt) : Prop := (p = none ∧ M = []) ∨ ∃ v b, p = some ⟨v, 0, none⟩ ∧ VecIs w v b M
theorem VecIs.at_ {w : World} {v b : Nat} {M : List Dt} (h : VecIs w v b M) : VecAt w (some ⟨v, 0, none⟩) M := .inr ⟨v, b, rfl, h⟩
theorem VecAt.nil (w : World) : VecAt w none [] := .inl ⟨rfl, rfl⟩
theorem VecAt.up {w w' : World} {p : Option Addr} {M : List Dt} (h : VecAt w p M) (hb : Below w.heap.size w w') : VecAt w' p M := by
  rcases h with h | ⟨v, b, rfl, h⟩
  · exact .inl h
  · exact .inr ⟨v, b, rfl, h.up hb⟩
theorem VecAt.vw {w : World} {p : Option Addr} {M : List Dt} (h : VecAt w p M) : Vw M := by
  rcases h with ⟨_, rfl⟩ | ⟨v, b, _, h⟩
  · exact Vw.nil
  · exact h.2.2
theorem acOk_of {a : Ac} (h : i64B a.1 ∧ i64B a.2) : acOk a := ⟨wf_of h.1.1 h.1.2, wf_of h.2.1 h.2.2⟩
theorem acOk_right {a : Ac} {n : Int} (h : rightD (a, n) = true) : acOk a := by
  have := (rightD_iff _).1 h
  simp only at this
  exact ⟨wf_of (by omega) (by omega), wf_of (by omega) (by omega)⟩
theorem vcnew_any (w : World) : Calls Try.prog 17 #[] w fun e w' => e = .returned (.pointer (some ⟨w.heap.size + 1, 0, none⟩)) ∧ VecIs w' (w.heap.size + 1) w.heap.size [] ∧ Below w.heap.size w w' := by
  have H : VecIs ((w.alloc (.map #[] 0)).alloc (.cells #[.map (some w.heap.size)] 116)) (w.heap.size + 1) w.heap.size [] := by
    refine ⟨?_, (MapIs.made w).alloc _, Vw.nil⟩
    have := Whole.new (w.alloc (.map #[] 0)) 116 #[.map (some w.heap.size)]
    simpa using this
  have B0 : Below w.heap.size w ((w.alloc (.map #[] 0)).alloc (.cells #[.map (some w.heap.size)] 116)) := ((Below.refl _ _).alloc (Nat.le_refl _) _).alloc (by simp) _
  have HH := Lib.hid (And.intro H B0)
  clear H B0
  have mk : (Instr.makeMap 114 none).run Try.prog w = .ok (.map (some w.heap.size)) (w.alloc (.map #[] 0)) := run_makeMap _ _
  go_enter Try.func17, Try.ntmps17
  go_wp2
  go_ret
  exact ⟨rfl, HH.out.1, HH.out.2⟩
theorem vcright_any (a : Ac) (n : Int) (w : World) : Calls Try.prog 85 #[acV a, .int .i64 n] w fun e w' => e = .returned (.bool (rightD (a, n))) ∧ Below w.heap.size w w' := by
  obtain ⟨d, i⟩ := a
  have C1 := Lib.hid (fun w => right_any d i n w)
  have hr : dotB d i n = rightD ((d, i), n) := rfl
  generalize rightD ((d, i), n) = r at *
  rw [hr] at C1
  clear hr
  unfold dotV at C1
  unfold acV
  have hW := Whole.new w 25 #[.int .i64 d, .int .i64 i]
  have B0 := Lib.hid ((Below.refl w.heap.size w).alloc (Nat.le_refl _) (.cells #[.int .i64 d, .int .i64 i] 25))
  go_enter Try.func85, Try.ntmps85
  go_wp2_with fail
  refine (C1.out _).mono ?_; rintro e w1 ⟨rfl, b1⟩
  go_wp2
  go_ret
  exact ⟨rfl, B0.out.trans (below_of_le b1 (by simp))⟩
theorem vcget_in (a : Ac) (ok : acOk a) (w : World) (v b : Nat) (M : List Dt) (h : VecIs w v b M) :
    Calls Try.prog 26 #[.pointer (some ⟨v, 0, none⟩), acV a] w fun e w' => e = .returned (.int .i64 (mget M a)) ∧ Below w.heap.size w w' := by
  obtain ⟨d, i⟩ := a
  have hW := Whole.new w 25 #[.int .i64 d, .int .i64 i]
  have B0 := Lib.hid ((Below.refl w.heap.size w).alloc (Nat.le_refl _) (.cells #[.int .i64 d, .int .i64 i] 25))
  have hv := h.alloc (.cells #[.int .i64 d, .int .i64 i] 25)
  have H := Lib.hid (And.intro hW hv)
  clear hW hv h
  generalize hq : mget M (d, i) = q
  have HQ := Lib.hid hq
  clear hq
  unfold acV
  go_enter Try.func26, Try.ntmps26
  go_wp2_with fail
  obtain ⟨hW, hv⟩ := H.out
  clear H
  generalize hN : w.heap.size = N at *
  generalize (w.alloc (.cells #[.int .i64 d, .int .i64 i] 25)) = W at *
  have c0 : W.cell? ⟨N, 0, none⟩ = some (.int .i64 d) := by rw [hW.cell]; rfl
  have c1 : W.cell? ⟨N, 1, none⟩ = some (.int .i64 i) := by rw [hW.cell]; rfl
  have c2 := hv.cell
  have lk := hv.drew.look ok
  rw [HQ.out] at lk
  unfold acV at lk
  clear hW hv
  go_region
  go_wp2
  go_ret
  exact ⟨rfl, B0.out.drew⟩
theorem vcget_nil (a : Ac) (w : World) : Calls Try.prog 26 #[.pointer none, acV a] w fun e w' => e = .returned (.int .i64 0) ∧ Below w.heap.size w w' := by
  obtain ⟨d, i⟩ := a
  have B0 := Lib.hid ((Below.refl w.heap.size w).alloc (Nat.le_refl _) (.cells #[.int .i64 d, .int .i64 i] 25))
  unfold acV
  go_enter Try.func26, Try.ntmps26
  go_wp2
  go_ret
  exact ⟨rfl, B0.out⟩
theorem vcget_any (a : Ac) (ok : acOk a) (w : World) (p : Option Addr) (M : List Dt) (h : VecAt w p M) :
    Calls Try.prog 26 #[.pointer p, acV a] w fun e w' => e = .returned (.int .i64 (mget M a)) ∧ Below w.heap.size w w' := by
  rcases h with ⟨rfl, rfl⟩ | ⟨v, b, rfl, h⟩
  · exact vcget_nil a w
  · exact vcget_in a ok w v b M h
/-- A dot lies boxed in block N; beside it X holds. -/
def St3 (w : World) (N : Nat) (d i s : Int) (X : World → Prop) (W : World) : Prop :=
  Below N w W ∧ N + 1 ≤ W.heap.size ∧ W.cell? ⟨N, 0, none⟩ = some (.int .i64 d) ∧ W.cell? ⟨N, 1, none⟩ = some (.int .i64 i) ∧ W.cell? ⟨N, 2, none⟩ = some (.int .i64 s) ∧ X W
theorem St3.step {w : World} {N : Nat} {d i s : Int} {X : World → Prop} {W W' : World} (hX : ∀ W W', X W → Below W.heap.size W W' → X W') (h : St3 w N d i s X W) (b : Below W.heap.size W W') : St3 w N d i s X W' := by
  obtain ⟨h5, h3, h0, h1, h2, h4⟩ := h
  have hs := b.size
  refine ⟨h5.trans (below_of_le b (by omega)), by omega, ?_, ?_, ?_, hX _ _ h4 b⟩
  all_goals
    rw [b.cell (by simp only; omega)]
    assumption
theorem St3.new (w : World) (d i s : Int) (X : World → Prop) (hX : ∀ W W', X W → Below W.heap.size W W' → X W') (h : X w) (t : TypeId) : St3 w w.heap.size d i s X (w.alloc (.cells #[.int .i64 d, .int .i64 i, .int .i64 s] t)) := by
  have hW := Whole.new w t #[.int .i64 d, .int .i64 i, .int .i64 s]
  have B0 := (Below.refl w.heap.size w).alloc (Nat.le_refl _) (.cells #[.int .i64 d, .int .i64 i, .int .i64 s] t)
  refine ⟨B0, by simp, ?_, ?_, ?_, hX _ _ h B0⟩
  all_goals
    rw [hW.cell]
    rfl
/-- Has a vector a dot? -/
def vhasB (M : List Dt) (x : Dt) : Bool := rightD x && decide (x.2 ≤ mget M x.1)
theorem vchas_any (x : Dt) (w : World) (p : Option Addr) (M : List Dt) (h : VecAt w p M) :
    Calls Try.prog 24 #[.pointer p, dtV x] w fun e w' => e = .returned (.bool (vhasB M x)) ∧ Below w.heap.size w w' := by
  obtain ⟨⟨d, i⟩, s⟩ := x
  have hX : ∀ W W', VecAt W p M → Below W.heap.size W W' → VecAt W' p M := fun W W' h b => h.up b
  have H := Lib.hid (St3.new w d i s (fun W => VecAt W p M) hX h 27)
  have ST := Lib.hid (fun N W W' => @St3.step w N d i s (fun W => VecAt W p M) W W' hX)
  generalize hN : w.heap.size = N at *
  have CR := Lib.hid (fun W (hS : St3 w N d i s (fun W => VecAt W p M) W) => (right_any d i s W).mono fun e w' (h' : e = _ ∧ Below W.heap.size W w') => And.intro h'.1 (ST.out N _ _ hS h'.2))
  clear h hX
  cases hr : rightD ((d, i), s)
  · have hr' : dotB d i s = false := hr
    have hz : vhasB M ((d, i), s) = false := by unfold vhasB; rw [hr]; rfl
    rw [hz]
    rw [hr'] at CR
    unfold dtV
    unfold dotV at CR
    clear hr hr' hz
    go_enter Try.func24, Try.ntmps24
    go_wp2_with fail
    have SD := Lib.hid (ST.out _ _ _ H.out (Below.drew (Below.refl _ _)))
    obtain ⟨s0, s1, s2, s3, s4, s5⟩ := H.out
    clear H
    generalize (w.alloc (.cells #[.int .i64 d, .int .i64 i, .int .i64 s] 27)) = W at *
    refine wp_region_any (by kernel_rfl) ?_
    change wpAny _ _ _ _ _ _ _ W.drew
    (refine wpAny_ready (rs := [0]) (by kernel_rfl) (by simp) ?_; refine AllReady.cons rfl (fun K hK => ?_) AllReady.nil)
    go_simp
    refine hK _ _ ?_; clear hK K
    (refine wpAny_ready (rs := [1]) (by kernel_rfl) (by simp) ?_; refine AllReady.cons rfl (fun K hK => ?_) AllReady.nil)
    go_simp
    go_wp2_with (go_at_call 84; refine (CR.out _ SD.out).mono ?_; rintro e w1 ⟨rfl, t0, t1, t2, t3, t4, t5⟩)
    (refine wpAny_ready (rs := [2]) (by kernel_rfl) (by simp) ?_; refine AllReady.cons rfl (fun K hK => ?_) AllReady.nil)
    go_simp
    refine hK _ _ ?_; clear hK K
    (refine wpAny_take (i := 3) (v := undef) rfl (by kernel_rfl) (by kernel_rfl) (by kernel_rfl) (fun _ _ _ h => h) (Or.inr ⟨by rfl, rfl⟩) ?_; refine wpAny_take (i := 4) (v := undef) rfl (by kernel_rfl) (by kernel_rfl) (by kernel_rfl) (fun _ _ _ h => h) (Or.inr ⟨by rfl, rfl⟩) ?_; refine wpAny_take (i := 5) (v := undef) rfl (by kernel_rfl) (by kernel_rfl) (by kernel_rfl) (fun _ _ _ h => h) (Or.inr ⟨by rfl, rfl⟩) ?_; refine wpAny_take (i := 6) (v := undef) rfl (by kernel_rfl) (by kernel_rfl) (by kernel_rfl) (fun _ _ _ h => h) (Or.inr ⟨by rfl, rfl⟩) ?_; refine wpAny_take (i := 7) (v := undef) rfl (by kernel_rfl) (by kernel_rfl) (by kernel_rfl) (fun _ _ _ h => h) (Or.inr ⟨by rfl, rfl⟩) ?_; refine wpAny_take (i := 8) (v := undef) rfl (by kernel_rfl) (by kernel_rfl) (by kernel_rfl) (fun _ _ _ h => h) (Or.inr ⟨by rfl, rfl⟩) ?_; refine wpAny_take (i := 9) (v := undef) rfl (by kernel_rfl) (by kernel_rfl) (by kernel_rfl) (fun _ _ _ h => h) (Or.inr ⟨by rfl, rfl⟩) ?_)
    (refine wpAny_ready (rs := [10]) (by kernel_rfl) (by simp) ?_; refine AllReady.cons rfl (fun K hK => ?_) AllReady.nil)
    go_simp
    refine hK _ _ ?_; clear hK K
    (refine wpAny_ready (rs := [11]) (by kernel_rfl) (by simp) ?_; refine AllReady.cons rfl (fun K hK => ?_) AllReady.nil)
    go_simp
    refine hK _ _ ?_; clear hK K
    refine wpAny_done (by kernel_rfl) ?_ _
    go_wp2
    go_ret
    exact ⟨rfl, t0⟩
  · have hr' : dotB d i s = true := hr
    have hz : vhasB M ((d, i), s) = decide (s ≤ mget M (d, i)) := by unfold vhasB; rw [hr]; rfl
    have ok : acOk (d, i) := acOk_right hr
    have CG := Lib.hid (fun W (hS : St3 w N d i s (fun W => VecAt W p M) W) => (vcget_any (d, i) ok W p M hS.2.2.2.2.2).mono fun e w' (h' : e = _ ∧ Below W.heap.size W w') => And.intro h'.1 (ST.out N _ _ hS h'.2))
    rw [hz]
    generalize mget M (d, i) = q at *
    rw [hr'] at CR
    unfold dtV
    unfold dotV at CR
    unfold acV at CG
    clear hr hr' hz ok
    go_enter Try.func24, Try.ntmps24
    go_wp2_with fail
    obtain ⟨s0, s1, s2, s3, s4, s5⟩ := H.out
    clear H
    generalize (w.alloc (.cells #[.int .i64 d, .int .i64 i, .int .i64 s] 27)) = W at *
    go_region_held3 (fun W => Below N w W ∧ N + 1 ≤ W.heap.size ∧ W.cell? ⟨N, 0, none⟩ = some (.int .i64 d) ∧ W.cell? ⟨N, 1, none⟩ = some (.int .i64 i) ∧ W.cell? ⟨N, 2, none⟩ = some (.int .i64 s) ∧ VecAt W p M)
      (first | assumption | exact ⟨by assumption, by assumption, by assumption, by assumption, by assumption, by assumption⟩ | exact ST.out _ _ _ ⟨by assumption, by assumption, by assumption, by assumption, by assumption, by assumption⟩ (Below.drew (Below.refl _ _)))
      (first | (go_at_call 84; refine (CR.out _ (by first | assumption | exact ⟨by assumption, by assumption, by assumption, by assumption, by assumption, by assumption⟩)).mono ?_; rintro e w1 ⟨rfl, s0, s1, s2, s3, s4, s5⟩) | (go_at_call 26; refine (CG.out _ (by first | assumption | exact ⟨by assumption, by assumption, by assumption, by assumption, by assumption, by assumption⟩)).mono ?_; rintro e w1 ⟨rfl, s0, s1, s2, s3, s4, s5⟩))
    refine (by assumption : ∀ (a : Act) (w : World), _ → _) _ _ ?_
    go_wp2
    go_ret
    have hz := (by assumption : Below N w _ ∧ N + 1 ≤ _ ∧ _)
    exact ⟨rfl, hz.1⟩
end Go.Proofs.Ytailbppddnegoaa
/- Layer 17 (vector): Raise, Take. -/
namespace Go.Proofs.Ytailbppddnegoaa
open Go.RowKit
set_option linter.unusedVariables false
set_option maxRecDepth 100000
attribute [local go_sem ↓] Go.wp_at_zero Go.wp_at_succ

/-- An actor lies boxed in block N; beside it X holds. -/
def St2 (w : World) (N : Nat) (d i : Int) (X : World → Prop) (W : World) : Prop :=
  Below N w W ∧ N + 1 ≤ W.heap.size ∧ W.cell? ⟨N, 0, none⟩ = some (.int .i64 d) ∧ W.cell? ⟨N, 1, none⟩ = some (.int .i64 i) ∧ X W
theorem St2.step {w : World} {N : Nat} {d i : Int} {X : World → Prop} {W W' : World} (hX : ∀ W W', X W → Below W.heap.size W W' → X W') (h : St2 w N d i X W) (b : Below W.heap.size W W') : St2 w N d i X W' := by
  obtain ⟨h5, h3, h0, h1, h4⟩ := h
  have hs := b.size
  refine ⟨h5.trans (below_of_le b (by omega)), by omega, ?_, ?_, hX _ _ h4 b⟩
  all_goals
    rw [b.cell (by simp only; omega)]
    assumption
theorem St2.new (w : World) (d i : Int) (X : World → Prop) (hX : ∀ W W', X W → Below W.heap.size W W' → X W') (h : X w) (t : TypeId) : St2 w w.heap.size d i X (w.alloc (.cells #[.int .i64 d, .int .i64 i] t)) := by
  have hW := Whole.new w t #[.int .i64 d, .int .i64 i]
  have B0 := (Below.refl w.heap.size w).alloc (Nat.le_refl _) (.cells #[.int .i64 d, .int .i64 i] t)
  refine ⟨B0, by simp, ?_, ?_, hX _ _ h B0⟩
  all_goals
    rw [hW.cell]
    rfl
/-- What a raise leaves: the map's block alone has changed. -/
def RaiseEnd (w : World) (v b : Nat) (M : List Dt) (r : Bool) (e : Ending) (w' : World) : Prop := e = .returned (.bool r) ∧ VecIs w' v b M ∧ Ch (fun k => k = b) w w'
theorem VecIs.upd {w : World} {v b : Nat} {M : List Dt} (h : VecIs w v b M) (a : Ac) (n : Int) (hr : rightD (a, n) = true) :
    ∃ w', (Instr.mapUpdate 114 (.map (some b)) (acV a) (.int .i64 n)).run Try.prog w = .ok () w' ∧ VecIs w' v b (rset M a n) ∧ Ch (fun k => k = b) w w' := by
  have hb := (rightD_iff _).1 hr
  simp only at hb
  have hl := h.2.2.len
  obtain ⟨w', q, m, g⟩ := h.2.1.update actor_key Try.underlying114 Try.underlying3 (by simp only [maxLen]; omega) (acOk_right hr) (wf_of (by omega) (by omega)) (rset_perm h.2.2.1 a n)
  have hc : Ch (fun k => k = b) w w' := (grown_ch g).mono fun k _ hk => by injection hk
  refine ⟨w', q, ⟨h.1.ch hc h.ne, m, h.2.2.set hr⟩, hc⟩
set_option maxHeartbeats 1000000 in
theorem vcraise_nil (a : Ac) (n : Int) (w : World) : Calls Try.prog 21 #[.pointer none, acV a, .int .i64 n] w fun e w' => e = .returned (.bool false) ∧ Below w.heap.size w w' := by
  obtain ⟨d, i⟩ := a
  unfold acV
  have B0 := Lib.hid ((Below.refl w.heap.size w).alloc (Nat.le_refl _) (.cells #[.int .i64 d, .int .i64 i] 25))
  go_enter Try.func21, Try.ntmps21
  go_wp2_with fail
  generalize (w.alloc (.cells #[.int .i64 d, .int .i64 i] 25)) = W at *
  refine wp_region_held_drew (S := (fun _ => True)) (by kernel_rfl) ?_ (fun hHeld => ?_)
  · (try dsimp only); try trivial
  refine wpAnyH_take (i := 0) (v := ?_) rfl (by kernel_rfl) (by kernel_rfl) (by kernel_rfl) (fun _ _ _ h => h) (Or.inl ⟨by rfl, ?_⟩) (by assumption) ?_
  rotate_left
  first | (focus ((intro w hSw; (try dsimp only at hSw); go_simp); (try with_reducible rfl); done)) | fail
  try simp only [Act.put, List.getElem_toArray, List.getElem_cons_zero, List.setIfInBounds_toArray, List.set_cons_zero, List.set_cons_succ]
  refine wpAnyH_take (i := 1) (v := ?_) rfl (by kernel_rfl) (by kernel_rfl) (by kernel_rfl) (fun _ _ _ h => h) (Or.inl ⟨by rfl, ?_⟩) (by assumption) ?_
  rotate_left
  first | (focus ((intro w hSw; (try dsimp only at hSw); go_simp); (try with_reducible rfl); done)) | fail
  try simp only [Act.put, List.getElem_toArray, List.getElem_cons_zero, List.getElem_cons_succ, List.setIfInBounds_toArray, List.set_cons_zero, List.set_cons_succ]
  refine wpAnyH_take (i := 2) (v := ?_) rfl (by kernel_rfl) (by kernel_rfl) (by kernel_rfl) (fun _ _ _ h => h) (Or.inl ⟨by rfl, ?_⟩) (by assumption) ?_
  rotate_left
  first | (focus ((intro w hSw; (try dsimp only at hSw); go_simp); (try with_reducible rfl); done)) | fail
  try simp only [Act.put, List.getElem_toArray, List.getElem_cons_zero, List.getElem_cons_succ, List.setIfInBounds_toArray, List.set_cons_zero, List.set_cons_succ]
  refine wpAnyH_take (i := 3) (v := undef) rfl (by kernel_rfl) (by kernel_rfl) (by kernel_rfl) (fun _ _ _ h => h) (Or.inr ⟨by rfl, rfl⟩) (by assumption) ?_
  try simp only [Act.put, List.getElem_toArray, List.getElem_cons_zero, List.getElem_cons_succ, List.setIfInBounds_toArray, List.set_cons_zero, List.set_cons_succ]
  refine wpAnyH_take (i := 4) (v := undef) rfl (by kernel_rfl) (by kernel_rfl) (by kernel_rfl) (fun _ _ _ h => h) (Or.inr ⟨by rfl, rfl⟩) (by assumption) ?_
  try simp only [Act.put, List.getElem_toArray, List.getElem_cons_zero, List.getElem_cons_succ, List.setIfInBounds_toArray, List.set_cons_zero, List.set_cons_succ]
  refine wpAnyH_take (i := 5) (v := undef) rfl (by kernel_rfl) (by kernel_rfl) (by kernel_rfl) (fun _ _ _ h => h) (Or.inr ⟨by rfl, rfl⟩) (by assumption) ?_
  try simp only [Act.put, List.getElem_toArray, List.getElem_cons_zero, List.getElem_cons_succ, List.setIfInBounds_toArray, List.set_cons_zero, List.set_cons_succ]
  refine wpAnyH_take (i := 6) (v := undef) rfl (by kernel_rfl) (by kernel_rfl) (by kernel_rfl) (fun _ _ _ h => h) (Or.inr ⟨by rfl, rfl⟩) (by assumption) ?_
  try simp only [Act.put, List.getElem_toArray, List.getElem_cons_zero, List.getElem_cons_succ, List.setIfInBounds_toArray, List.set_cons_zero, List.set_cons_succ]
  refine wpAnyH_take (i := 7) (v := ?_) rfl (by kernel_rfl) (by kernel_rfl) (by kernel_rfl) (fun _ _ _ h => h) (Or.inl ⟨by rfl, ?_⟩) (by assumption) ?_
  rotate_left
  first | (focus ((intro w hSw; (try dsimp only at hSw); go_simp); (try with_reducible rfl); done)) | fail
  try simp only [Act.put, List.getElem_toArray, List.getElem_cons_zero, List.getElem_cons_succ, List.setIfInBounds_toArray, List.set_cons_zero, List.set_cons_succ]
  refine wpAnyH_take (i := 8) (v := ?_) rfl (by kernel_rfl) (by kernel_rfl) (by kernel_rfl) (fun _ _ _ h => h) (Or.inl ⟨by rfl, ?_⟩) (by assumption) ?_
  rotate_left
  first | (focus ((intro w hSw; (try dsimp only at hSw); go_simp); (try with_reducible rfl); done)) | fail
  try simp only [Act.put, List.getElem_toArray, List.getElem_cons_zero, List.getElem_cons_succ, List.setIfInBounds_toArray, List.set_cons_zero, List.set_cons_succ]
  refine wpAnyH_take (i := 9) (v := undef) rfl (by kernel_rfl) (by kernel_rfl) (by kernel_rfl) (fun _ _ _ h => h) (Or.inr ⟨by rfl, rfl⟩) (by assumption) ?_
  try simp only [Act.put, List.getElem_toArray, List.getElem_cons_zero, List.getElem_cons_succ, List.setIfInBounds_toArray, List.set_cons_zero, List.set_cons_succ]
  refine wpAnyH_take (i := 10) (v := undef) rfl (by kernel_rfl) (by kernel_rfl) (by kernel_rfl) (fun _ _ _ h => h) (Or.inr ⟨by rfl, rfl⟩) (by assumption) ?_
  try simp only [Act.put, List.getElem_toArray, List.getElem_cons_zero, List.getElem_cons_succ, List.setIfInBounds_toArray, List.set_cons_zero, List.set_cons_succ]
  refine wpAnyH_take (i := 11) (v := undef) rfl (by kernel_rfl) (by kernel_rfl) (by kernel_rfl) (fun _ _ _ h => h) (Or.inr ⟨by rfl, rfl⟩) (by assumption) ?_
  try simp only [Act.put, List.getElem_toArray, List.getElem_cons_zero, List.getElem_cons_succ, List.setIfInBounds_toArray, List.set_cons_zero, List.set_cons_succ]
  refine wpAnyH_take (i := 12) (v := undef) rfl (by kernel_rfl) (by kernel_rfl) (by kernel_rfl) (fun _ _ _ h => h) (Or.inr ⟨by rfl, rfl⟩) (by assumption) ?_
  try simp only [Act.put, List.getElem_toArray, List.getElem_cons_zero, List.getElem_cons_succ, List.setIfInBounds_toArray, List.set_cons_zero, List.set_cons_succ]
  refine wpAnyH_take (i := 13) (v := undef) rfl (by kernel_rfl) (by kernel_rfl) (by kernel_rfl) (fun _ _ _ h => h) (Or.inr ⟨by rfl, rfl⟩) (by assumption) ?_
  try simp only [Act.put, List.getElem_toArray, List.getElem_cons_zero, List.getElem_cons_succ, List.setIfInBounds_toArray, List.set_cons_zero, List.set_cons_succ]
  refine wpAnyH_take (i := 14) (v := undef) rfl (by kernel_rfl) (by kernel_rfl) (by kernel_rfl) (fun _ _ _ h => h) (Or.inr ⟨by rfl, rfl⟩) (by assumption) ?_
  try simp only [Act.put, List.getElem_toArray, List.getElem_cons_zero, List.getElem_cons_succ, List.setIfInBounds_toArray, List.set_cons_zero, List.set_cons_succ]
  refine wpAnyH_take (i := 15) (v := undef) rfl (by kernel_rfl) (by kernel_rfl) (by kernel_rfl) (fun _ _ _ h => h) (Or.inr ⟨by rfl, rfl⟩) (by assumption) ?_
  try simp only [Act.put, List.getElem_toArray, List.getElem_cons_zero, List.getElem_cons_succ, List.setIfInBounds_toArray, List.set_cons_zero, List.set_cons_succ]
  refine wpAnyH_take (i := 16) (v := undef) rfl (by kernel_rfl) (by kernel_rfl) (by kernel_rfl) (fun _ _ _ h => h) (Or.inr ⟨by rfl, rfl⟩) (by assumption) ?_
  try simp only [Act.put, List.getElem_toArray, List.getElem_cons_zero, List.getElem_cons_succ, List.setIfInBounds_toArray, List.set_cons_zero, List.set_cons_succ]
  refine wpAnyH_take (i := 17) (v := ?_) rfl (by kernel_rfl) (by kernel_rfl) (by kernel_rfl) (fun _ _ _ h => h) (Or.inl ⟨by rfl, ?_⟩) (by assumption) ?_
  rotate_left
  first | (focus ((intro w hSw; (try dsimp only at hSw); go_simp); (try with_reducible rfl); done)) | fail
  try simp only [Act.put, List.getElem_toArray, List.getElem_cons_zero, List.getElem_cons_succ, List.setIfInBounds_toArray, List.set_cons_zero, List.set_cons_succ]
  refine wpAnyH_done (by kernel_rfl) ?_ _
  go_wp2
  go_ret
  exact ⟨rfl, B0.out.drew⟩
set_option maxHeartbeats 1000000 in
theorem vcraise_no (a : Ac) (n : Int) (w : World) (v b : Nat) (M : List Dt) (h : VecIs w v b M) (hr : rightD (a, n) = false) :
    Calls Try.prog 21 #[.pointer (some ⟨v, 0, none⟩), acV a, .int .i64 n] w fun e w' => e = .returned (.bool false) ∧ Below w.heap.size w w' := by
  obtain ⟨d, i⟩ := a
  have hX : ∀ W W' : World, True → Below W.heap.size W W' → True := fun _ _ h _ => h
  have H := Lib.hid (St2.new w d i (fun _ => True) hX trivial 25)
  have ST := Lib.hid (fun N W W' => @St2.step w N d i (fun _ => True) W W' hX)
  generalize hN : w.heap.size = N at *
  have CR := Lib.hid (fun W (hS : St2 w N d i (fun _ => True) W) => (vcright_any (d, i) n W).mono fun e w' (h' : e = _ ∧ Below W.heap.size W w') => And.intro h'.1 (ST.out N _ _ hS h'.2))
  rw [hr] at CR
  unfold acV at CR
  unfold acV
  clear hr hX h
  go_enter Try.func21, Try.ntmps21
  go_wp2_with fail
  obtain ⟨s0, s1, s2, s3, s4⟩ := H.out
  clear H
  generalize (w.alloc (.cells #[.int .i64 d, .int .i64 i] 25)) = W at *
  refine wp_region_held_drew (S := (fun W => Below N w W ∧ N + 1 ≤ W.heap.size ∧ W.cell? ⟨N, 0, none⟩ = some (.int .i64 d) ∧ W.cell? ⟨N, 1, none⟩ = some (.int .i64 i) ∧ True)) (by kernel_rfl) ?_ (fun hHeld => ?_)
  · (try dsimp only); exact ST.out _ _ _ ⟨by assumption, by assumption, by assumption, by assumption, by assumption⟩ (Below.drew (Below.refl _ _))
  refine wpAnyH_take (i := 0) (v := ?_) rfl (by kernel_rfl) (by kernel_rfl) (by kernel_rfl) (fun _ _ _ h => h) (Or.inl ⟨by rfl, ?_⟩) (by assumption) ?_
  rotate_left
  first | (focus ((intro w hSw; (try dsimp only at hSw); go_simp); (try with_reducible rfl); done)) | fail
  try simp only [Act.put, List.getElem_toArray, List.getElem_cons_zero, List.setIfInBounds_toArray, List.set_cons_zero, List.set_cons_succ]
  refine wpAnyH_take (i := 1) (v := ?_) rfl (by kernel_rfl) (by kernel_rfl) (by kernel_rfl) (fun _ _ _ h => h) (Or.inl ⟨by rfl, ?_⟩) (by assumption) ?_
  rotate_left
  first | (focus ((intro w hSw; (try dsimp only at hSw); go_simp); (try with_reducible rfl); done)) | fail
  try simp only [Act.put, List.getElem_toArray, List.getElem_cons_zero, List.getElem_cons_succ, List.setIfInBounds_toArray, List.set_cons_zero, List.set_cons_succ]
  refine wpAnyH_take (i := 2) (v := ?_) rfl (by kernel_rfl) (by kernel_rfl) (by kernel_rfl) (fun _ _ _ h => h) (Or.inl ⟨by rfl, ?_⟩) (by assumption) ?_
  rotate_left
  first | (focus ((intro w hSw; (try dsimp only at hSw); go_simp); (try with_reducible rfl); done)) | fail
  try simp only [Act.put, List.getElem_toArray, List.getElem_cons_zero, List.getElem_cons_succ, List.setIfInBounds_toArray, List.set_cons_zero, List.set_cons_succ]
  refine wpAnyH_take (i := 3) (v := ?_) rfl (by kernel_rfl) (by kernel_rfl) (by kernel_rfl) (fun _ _ _ h => h) (Or.inl ⟨by rfl, ?_⟩) (by assumption) ?_
  rotate_left
  first | (focus ((intro w hSw; (try dsimp only at hSw); go_simp); (try with_reducible rfl); done)) | fail
  try simp only [Act.put, List.getElem_toArray, List.getElem_cons_zero, List.getElem_cons_succ, List.setIfInBounds_toArray, List.set_cons_zero, List.set_cons_succ]
  refine wpAnyH_take (i := 4) (v := ?_) rfl (by kernel_rfl) (by kernel_rfl) (by kernel_rfl) (fun _ _ _ h => h) (Or.inl ⟨by rfl, ?_⟩) (by assumption) ?_
  rotate_left
  first | (focus ((intro w hSw; (try dsimp only at hSw); go_simp); (try with_reducible rfl); done)) | fail
  try simp only [Act.put, List.getElem_toArray, List.getElem_cons_zero, List.getElem_cons_succ, List.setIfInBounds_toArray, List.set_cons_zero, List.set_cons_succ]
  refine wpAnyH_ready (rs := [5]) (by kernel_rfl) (by simp) ?_
  refine AllReadyH.cons rfl (fun K hK => ?_) AllReadyH.nil
  go_simp
  refine (CR.out _ hHeld).mono ?_; rintro e w1 ⟨rfl, t0, t1, t2, t3, t4⟩
  go_wp2_with fail
  refine hK.out _ _ ?_ (fun hHeld => ?_)
  · (try dsimp only); exact ⟨by assumption, by assumption, by assumption, by assumption, by assumption⟩
  clear hK K
  try simp only [Act.put, List.getElem_toArray, List.getElem_cons_zero, List.getElem_cons_succ, List.setIfInBounds_toArray, List.set_cons_zero, List.set_cons_succ]
  refine wpAnyH_take (i := 6) (v := ?_) rfl (by kernel_rfl) (by kernel_rfl) (by kernel_rfl) (fun _ _ _ h => h) (Or.inl ⟨by rfl, ?_⟩) (by assumption) ?_
  rotate_left
  first | (focus ((intro w hSw; (try dsimp only at hSw); go_simp); (try with_reducible rfl); done)) | fail
  try simp only [Act.put, List.getElem_toArray, List.getElem_cons_zero, List.getElem_cons_succ, List.setIfInBounds_toArray, List.set_cons_zero, List.set_cons_succ]
  refine wpAnyH_take (i := 7) (v := ?_) rfl (by kernel_rfl) (by kernel_rfl) (by kernel_rfl) (fun _ _ _ h => h) (Or.inl ⟨by rfl, ?_⟩) (by assumption) ?_
  rotate_left
  first | (focus ((intro w hSw; (try dsimp only at hSw); go_simp); (try with_reducible rfl); done)) | fail
  try simp only [Act.put, List.getElem_toArray, List.getElem_cons_zero, List.getElem_cons_succ, List.setIfInBounds_toArray, List.set_cons_zero, List.set_cons_succ]
  refine wpAnyH_take (i := 8) (v := ?_) rfl (by kernel_rfl) (by kernel_rfl) (by kernel_rfl) (fun _ _ _ h => h) (Or.inl ⟨by rfl, ?_⟩) (by assumption) ?_
  rotate_left
  first | (focus ((intro w hSw; (try dsimp only at hSw); go_simp); (try with_reducible rfl); done)) | fail
  try simp only [Act.put, List.getElem_toArray, List.getElem_cons_zero, List.getElem_cons_succ, List.setIfInBounds_toArray, List.set_cons_zero, List.set_cons_succ]
  refine wpAnyH_take (i := 9) (v := undef) rfl (by kernel_rfl) (by kernel_rfl) (by kernel_rfl) (fun _ _ _ h => h) (Or.inr ⟨by rfl, rfl⟩) (by assumption) ?_
  try simp only [Act.put, List.getElem_toArray, List.getElem_cons_zero, List.getElem_cons_succ, List.setIfInBounds_toArray, List.set_cons_zero, List.set_cons_succ]
  refine wpAnyH_take (i := 10) (v := undef) rfl (by kernel_rfl) (by kernel_rfl) (by kernel_rfl) (fun _ _ _ h => h) (Or.inr ⟨by rfl, rfl⟩) (by assumption) ?_
  try simp only [Act.put, List.getElem_toArray, List.getElem_cons_zero, List.getElem_cons_succ, List.setIfInBounds_toArray, List.set_cons_zero, List.set_cons_succ]
  refine wpAnyH_take (i := 11) (v := undef) rfl (by kernel_rfl) (by kernel_rfl) (by kernel_rfl) (fun _ _ _ h => h) (Or.inr ⟨by rfl, rfl⟩) (by assumption) ?_
  try simp only [Act.put, List.getElem_toArray, List.getElem_cons_zero, List.getElem_cons_succ, List.setIfInBounds_toArray, List.set_cons_zero, List.set_cons_succ]
  refine wpAnyH_take (i := 12) (v := undef) rfl (by kernel_rfl) (by kernel_rfl) (by kernel_rfl) (fun _ _ _ h => h) (Or.inr ⟨by rfl, rfl⟩) (by assumption) ?_
  try simp only [Act.put, List.getElem_toArray, List.getElem_cons_zero, List.getElem_cons_succ, List.setIfInBounds_toArray, List.set_cons_zero, List.set_cons_succ]
  refine wpAnyH_take (i := 13) (v := undef) rfl (by kernel_rfl) (by kernel_rfl) (by kernel_rfl) (fun _ _ _ h => h) (Or.inr ⟨by rfl, rfl⟩) (by assumption) ?_
  try simp only [Act.put, List.getElem_toArray, List.getElem_cons_zero, List.getElem_cons_succ, List.setIfInBounds_toArray, List.set_cons_zero, List.set_cons_succ]
  refine wpAnyH_take (i := 14) (v := undef) rfl (by kernel_rfl) (by kernel_rfl) (by kernel_rfl) (fun _ _ _ h => h) (Or.inr ⟨by rfl, rfl⟩) (by assumption) ?_
  try simp only [Act.put, List.getElem_toArray, List.getElem_cons_zero, List.getElem_cons_succ, List.setIfInBounds_toArray, List.set_cons_zero, List.set_cons_succ]
  refine wpAnyH_take (i := 15) (v := undef) rfl (by kernel_rfl) (by kernel_rfl) (by kernel_rfl) (fun _ _ _ h => h) (Or.inr ⟨by rfl, rfl⟩) (by assumption) ?_
  try simp only [Act.put, List.getElem_toArray, List.getElem_cons_zero, List.getElem_cons_succ, List.setIfInBounds_toArray, List.set_cons_zero, List.set_cons_succ]
  refine wpAnyH_take (i := 16) (v := undef) rfl (by kernel_rfl) (by kernel_rfl) (by kernel_rfl) (fun _ _ _ h => h) (Or.inr ⟨by rfl, rfl⟩) (by assumption) ?_
  try simp only [Act.put, List.getElem_toArray, List.getElem_cons_zero, List.getElem_cons_succ, List.setIfInBounds_toArray, List.set_cons_zero, List.set_cons_succ]
  refine wpAnyH_take (i := 17) (v := ?_) rfl (by kernel_rfl) (by kernel_rfl) (by kernel_rfl) (fun _ _ _ h => h) (Or.inl ⟨by rfl, ?_⟩) (by assumption) ?_
  rotate_left
  first | (focus ((intro w hSw; (try dsimp only at hSw); go_simp); (try with_reducible rfl); done)) | fail
  try simp only [Act.put, List.getElem_toArray, List.getElem_cons_zero, List.getElem_cons_succ, List.setIfInBounds_toArray, List.set_cons_zero, List.set_cons_succ]
  refine wpAnyH_done (by kernel_rfl) ?_ _
  go_wp2
  go_ret
  exact ⟨rfl, t0⟩
end Go.Proofs.Ytailbppddnegoaa
/- Layer 17 (vector): Raise where the mark may be, Take. -/
namespace Go.Proofs.Ytailbppddnegoaa
open Go.RowKit
set_option linter.unusedVariables false
set_option maxRecDepth 100000

set_option maxHeartbeats 1000000 in
theorem vcraise_yes (a : Ac) (n : Int) (w : World) (v b : Nat) (M : List Dt) (h : VecIs w v b M) (hr : rightD (a, n) = true) :
    Calls Try.prog 21 #[.pointer (some ⟨v, 0, none⟩), acV a, .int .i64 n] w (RaiseEnd w v b (rraise M a n) (raisedB M a n)) := by
  obtain ⟨d, i⟩ := a
  have ok : acOk (d, i) := acOk_right hr
  generalize hq : mget M (d, i) = q
  have hX : ∀ W W' : World, (W.cell? ⟨v, 0, none⟩ = some (.map (some b)) ∧ (Instr.lookup 114 (.map (some b)) (acV (d, i)) false).run Try.prog W = .ok (.int .i64 q) W ∧ VecIs W v b M) → Below W.heap.size W W' → (W'.cell? ⟨v, 0, none⟩ = some (.map (some b)) ∧ (Instr.lookup 114 (.map (some b)) (acV (d, i)) false).run Try.prog W' = .ok (.int .i64 q) W' ∧ VecIs W' v b M) :=
    fun W W' h b => by
      have hv := h.2.2.up b
      exact ⟨hv.cell, by rw [hv.look ok, hq], hv⟩
  unfold acV at hX
  simp only at hX
  have hx0 : w.cell? ⟨v, 0, none⟩ = some (.map (some b)) ∧ (Instr.lookup 114 (.map (some b)) (acV (d, i)) false).run Try.prog w = .ok (.int .i64 q) w ∧ VecIs w v b M := ⟨h.cell, by rw [h.look ok, hq], h⟩
  unfold acV at hx0
  have H := Lib.hid (St2.new w d i (fun W => W.cell? ⟨v, 0, none⟩ = some (.map (some b)) ∧ (Instr.lookup 114 (.map (some b)) (.agg #[.int .i64 d, .int .i64 i]) false).run Try.prog W = .ok (.int .i64 q) W ∧ VecIs W v b M) hX hx0 25)
  have ST := Lib.hid (fun N W W' => @St2.step w N d i (fun W => W.cell? ⟨v, 0, none⟩ = some (.map (some b)) ∧ (Instr.lookup 114 (.map (some b)) (.agg #[.int .i64 d, .int .i64 i]) false).run Try.prog W = .ok (.int .i64 q) W ∧ VecIs W v b M) W W' hX)
  have UP := Lib.hid (fun (W : World) (hW : VecIs W v b M) => hW.upd (d, i) n hr)
  have CR := Lib.hid (fun N W (hS : St2 w N d i (fun W => W.cell? ⟨v, 0, none⟩ = some (.map (some b)) ∧ (Instr.lookup 114 (.map (some b)) (.agg #[.int .i64 d, .int .i64 i]) false).run Try.prog W = .ok (.int .i64 q) W ∧ VecIs W v b M) W) => (vcright_any (d, i) n W).mono fun e w' (h' : e = _ ∧ Below W.heap.size W w') => And.intro h'.1 (ST.out N _ _ hS h'.2))
  rw [hr] at CR
  unfold acV at CR UP
  simp only at UP
  have hlt := Lib.hid (And.intro h.ltv h.ltb)
  have hrb : raisedB M (d, i) n = decide (q < n) := by unfold raisedB; rw [hr, hq]; rfl
  have hrr : rraise M (d, i) n = if decide (q < n) = true then rset M (d, i) n else M := by unfold rraise; rw [hrb]
  rw [hrb, hrr]
  unfold acV
  simp only
  generalize hN : w.heap.size = N at *
  clear hX hx0 h hr hrb hrr ok hq
  by_cases hlt' : q < n
  · have hd : decide (q < n) = true := decide_eq_true hlt'
    have hd2 : decide (n ≤ q) = false := decide_eq_false (by omega)
    simp only [hd, if_true]
    go_enter Try.func21, Try.ntmps21
    go_wp2_with fail
    obtain ⟨s0, s1, s2, s3, s4, s5, s6⟩ := H.out
    clear H
    generalize (w.alloc (.cells #[.int .i64 d, .int .i64 i] 25)) = W at *
    go_region_held3 (fun W => Below N w W ∧ N + 1 ≤ W.heap.size ∧ W.cell? ⟨N, 0, none⟩ = some (.int .i64 d) ∧ W.cell? ⟨N, 1, none⟩ = some (.int .i64 i) ∧ W.cell? ⟨v, 0, none⟩ = some (.map (some b)) ∧ (Instr.lookup 114 (.map (some b)) (.agg #[.int .i64 d, .int .i64 i]) false).run Try.prog W = .ok (.int .i64 q) W ∧ VecIs W v b M)
      (first | assumption | exact ⟨by assumption, by assumption, by assumption, by assumption, by assumption, by assumption, by assumption⟩ | exact ST.out _ _ _ ⟨by assumption, by assumption, by assumption, by assumption, by assumption, by assumption, by assumption⟩ (Below.drew (Below.refl _ _)))
      ((go_at_call 85; refine (CR.out N _ (by first | assumption | exact ⟨by assumption, by assumption, by assumption, by assumption, by assumption, by assumption, by assumption⟩)).mono ?_; rintro e w1 ⟨rfl, s0, s1, s2, s3, s4, s5, s6⟩))
    refine (by assumption : ∀ (a : Act) (w : World), _ → _) _ _ ?_
    have hz := (by assumption : Below N w _ ∧ N + 1 ≤ _ ∧ _)
    obtain ⟨z0, z1, z2, z3, z4, z5, z6⟩ := hz
    obtain ⟨w5, q5, hv5, hc5⟩ := UP.out _ z6.drew
    have HF := Lib.hid (And.intro z0 (And.intro z1 (And.intro hv5 hc5)))
    have qn : ∀ (w : World), (binOp .eql 114 (.map (some b)) (.map none)).run Try.prog w = .ok (.bool false) w := fun w => run_eql_map_nil w _ _ _ (some b) Try.underlying114
    clear UP z0 z6 hv5 hc5 z5 CR ST
    go_wp2_with fail
    go_region
    go_wp2
    go_ret
    exact ⟨rfl, HF.out.2.2.1, (below_ch (by have := HF.out.1; rw [hN]; exact this.drew)).trans HF.out.2.2.2 (fun k _ h => h)⟩
  · have hd : decide (q < n) = false := decide_eq_false hlt'
    have hd2 : decide (n ≤ q) = true := decide_eq_true (by omega)
    simp only [hd, Bool.false_eq_true, if_false]
    go_enter Try.func21, Try.ntmps21
    go_wp2_with fail
    obtain ⟨s0, s1, s2, s3, s4, s5, s6⟩ := H.out
    clear H
    generalize (w.alloc (.cells #[.int .i64 d, .int .i64 i] 25)) = W at *
    go_region_held3 (fun W => Below N w W ∧ N + 1 ≤ W.heap.size ∧ W.cell? ⟨N, 0, none⟩ = some (.int .i64 d) ∧ W.cell? ⟨N, 1, none⟩ = some (.int .i64 i) ∧ W.cell? ⟨v, 0, none⟩ = some (.map (some b)) ∧ (Instr.lookup 114 (.map (some b)) (.agg #[.int .i64 d, .int .i64 i]) false).run Try.prog W = .ok (.int .i64 q) W ∧ VecIs W v b M)
      (first | assumption | exact ⟨by assumption, by assumption, by assumption, by assumption, by assumption, by assumption, by assumption⟩ | exact ST.out _ _ _ ⟨by assumption, by assumption, by assumption, by assumption, by assumption, by assumption, by assumption⟩ (Below.drew (Below.refl _ _)))
      ((go_at_call 85; refine (CR.out N _ (by first | assumption | exact ⟨by assumption, by assumption, by assumption, by assumption, by assumption, by assumption, by assumption⟩)).mono ?_; rintro e w1 ⟨rfl, s0, s1, s2, s3, s4, s5, s6⟩))
    refine (by assumption : ∀ (a : Act) (w : World), _ → _) _ _ ?_
    have hz := (by assumption : Below N w _ ∧ N + 1 ≤ _ ∧ _)
    obtain ⟨z0, z1, z2, z3, z4, z5, z6⟩ := hz
    have HF := Lib.hid (And.intro z0 z6)
    clear UP z0 z6 z5 CR ST
    go_wp2
    go_ret
    exact ⟨rfl, HF.out.2, below_ch (by rw [hN]; exact HF.out.1)⟩
theorem vcraise_any (a : Ac) (n : Int) (w : World) (v b : Nat) (M : List Dt) (h : VecIs w v b M) :
    Calls Try.prog 21 #[.pointer (some ⟨v, 0, none⟩), acV a, .int .i64 n] w (RaiseEnd w v b (rraise M a n) (raisedB M a n)) := by
  cases hr : rightD (a, n)
  · have e1 : raisedB M a n = false := by unfold raisedB; rw [hr]; rfl
    have e2 : rraise M a n = M := by unfold rraise; rw [e1]; rfl
    rw [e1, e2]
    exact (vcraise_no a n w v b M h hr).mono fun e w' ⟨he, hb⟩ => ⟨he, h.up hb, below_ch hb⟩
  · exact vcraise_yes a n w v b M h hr
end Go.Proofs.Ytailbppddnegoaa
/- Layer 17 (vector): Take. -/
namespace Go.Proofs.Ytailbppddnegoaa
open Go.RowKit
set_option linter.unusedVariables false
set_option maxRecDepth 100000
attribute [local go_sem ↓] Go.wp_at_zero Go.wp_at_succ

/-- Three whole numbers in block N. -/
def C3 (N : Nat) (d i s : Int) (W : World) : Prop := W.cell? ⟨N, 0, none⟩ = some (.int .i64 d) ∧ W.cell? ⟨N, 1, none⟩ = some (.int .i64 i) ∧ W.cell? ⟨N, 2, none⟩ = some (.int .i64 s)
theorem C3.blk {N : Nat} {d i s : Int} {W W' : World} (h : C3 N d i s W) (hb : W'.heap[N]? = W.heap[N]?) : C3 N d i s W' := by
  obtain ⟨h0, h1, h2⟩ := h
  refine ⟨?_, ?_, ?_⟩
  all_goals
    rw [World.cell?_of_block hb]
    assumption
theorem C3.up {N : Nat} {d i s : Int} {W W' : World} (h : C3 N d i s W) (hN : N < W.heap.size) (b : Below W.heap.size W W') : C3 N d i s W' := h.blk (b.block N hN)
theorem C3.new (w : World) (d i s : Int) (t : TypeId) : C3 w.heap.size d i s (w.alloc (.cells #[.int .i64 d, .int .i64 i, .int .i64 s] t)) := by
  have hW := Whole.new w t #[.int .i64 d, .int .i64 i, .int .i64 s]
  refine ⟨?_, ?_, ?_⟩
  all_goals
    rw [hW.cell]
    rfl
set_option maxHeartbeats 1000000 in
/-- No dot is taken that may not be. -/
theorem vctake_no (x : Dt) (w : World) (p : Option Addr) (hr : rightD x = false) :
    Calls Try.prog 20 #[.pointer p, dtV x] w fun e w' => e = .returned (.bool false) ∧ Below w.heap.size w w' := by
  obtain ⟨⟨d, i⟩, s⟩ := x
  have hr' : dotB d i s = false := hr
  have CR := Lib.hid (fun w => right_any d i s w)
  rw [hr'] at CR
  have H := Lib.hid (C3.new w d i s 27)
  have B0 := Lib.hid ((Below.refl w.heap.size w).alloc (Nat.le_refl _) (.cells #[.int .i64 d, .int .i64 i, .int .i64 s] 27))
  have hs0 : (w.alloc (.cells #[.int .i64 d, .int .i64 i, .int .i64 s] 27)).heap.size = w.heap.size + 1 := by simp
  have HS := Lib.hid hs0
  unfold dtV
  unfold dotV at CR
  generalize hN : w.heap.size = N at *
  clear hr hr' hs0
  go_enter Try.func20, Try.ntmps20
  go_wp2_with fail
  generalize (w.alloc (.cells #[.int .i64 d, .int .i64 i, .int .i64 s] 27)) = W at *
  refine wp_region_held_drew (S := (fun W => W.cell? ⟨N, 0, none⟩ = some (.int .i64 d) ∧ W.cell? ⟨N, 1, none⟩ = some (.int .i64 i) ∧ W.cell? ⟨N, 2, none⟩ = some (.int .i64 s))) (by kernel_rfl) ?_ (fun hHeld => ?_)
  · (try dsimp only); exact H.out
  refine wpAnyH_take (i := 0) (v := ?_) rfl (by kernel_rfl) (by kernel_rfl) (by kernel_rfl) (fun _ _ _ h => h) (Or.inl ⟨by rfl, ?_⟩) (by assumption) ?_
  rotate_left
  first | (focus ((intro w hSw; (try dsimp only at hSw); go_simp); (try with_reducible rfl); done)) | fail
  try simp only [Act.put, List.getElem_toArray, List.getElem_cons_zero, List.setIfInBounds_toArray, List.set_cons_zero, List.set_cons_succ]
  refine wpAnyH_ready (rs := [1]) (by kernel_rfl) (by simp) ?_
  refine AllReadyH.cons rfl (fun K hK => ?_) AllReadyH.nil
  go_simp
  refine (CR.out _).mono ?_; rintro e w1 ⟨rfl, b1⟩
  go_wp2_with fail
  refine hK.out _ _ ?_ (fun hHeld => ?_)
  · (try dsimp only); exact C3.up hHeld (show N < W.heap.size by have := HS.out; omega) b1
  clear hK K
  try simp only [Act.put, List.getElem_toArray, List.getElem_cons_zero, List.getElem_cons_succ, List.setIfInBounds_toArray, List.set_cons_zero, List.set_cons_succ]
  refine wpAnyH_take (i := 2) (v := ?_) rfl (by kernel_rfl) (by kernel_rfl) (by kernel_rfl) (fun _ _ _ h => h) (Or.inl ⟨by rfl, ?_⟩) (by assumption) ?_
  rotate_left
  first | (focus ((intro w hSw; (try dsimp only at hSw); go_simp); (try with_reducible rfl); done)) | fail
  try simp only [Act.put, List.getElem_toArray, List.getElem_cons_zero, List.getElem_cons_succ, List.setIfInBounds_toArray, List.set_cons_zero, List.set_cons_succ]
  refine wpAnyH_take (i := 3) (v := undef) rfl (by kernel_rfl) (by kernel_rfl) (by kernel_rfl) (fun _ _ _ h => h) (Or.inr ⟨by rfl, rfl⟩) (by assumption) ?_
  try simp only [Act.put, List.getElem_toArray, List.getElem_cons_zero, List.getElem_cons_succ, List.setIfInBounds_toArray, List.set_cons_zero, List.set_cons_succ]
  refine wpAnyH_take (i := 4) (v := undef) rfl (by kernel_rfl) (by kernel_rfl) (by kernel_rfl) (fun _ _ _ h => h) (Or.inr ⟨by rfl, rfl⟩) (by assumption) ?_
  try simp only [Act.put, List.getElem_toArray, List.getElem_cons_zero, List.getElem_cons_succ, List.setIfInBounds_toArray, List.set_cons_zero, List.set_cons_succ]
  refine wpAnyH_take (i := 5) (v := undef) rfl (by kernel_rfl) (by kernel_rfl) (by kernel_rfl) (fun _ _ _ h => h) (Or.inr ⟨by rfl, rfl⟩) (by assumption) ?_
  try simp only [Act.put, List.getElem_toArray, List.getElem_cons_zero, List.getElem_cons_succ, List.setIfInBounds_toArray, List.set_cons_zero, List.set_cons_succ]
  refine wpAnyH_take (i := 6) (v := undef) rfl (by kernel_rfl) (by kernel_rfl) (by kernel_rfl) (fun _ _ _ h => h) (Or.inr ⟨by rfl, rfl⟩) (by assumption) ?_
  try simp only [Act.put, List.getElem_toArray, List.getElem_cons_zero, List.getElem_cons_succ, List.setIfInBounds_toArray, List.set_cons_zero, List.set_cons_succ]
  refine wpAnyH_take (i := 7) (v := undef) rfl (by kernel_rfl) (by kernel_rfl) (by kernel_rfl) (fun _ _ _ h => h) (Or.inr ⟨by rfl, rfl⟩) (by assumption) ?_
  try simp only [Act.put, List.getElem_toArray, List.getElem_cons_zero, List.getElem_cons_succ, List.setIfInBounds_toArray, List.set_cons_zero, List.set_cons_succ]
  refine wpAnyH_take (i := 8) (v := undef) rfl (by kernel_rfl) (by kernel_rfl) (by kernel_rfl) (fun _ _ _ h => h) (Or.inr ⟨by rfl, rfl⟩) (by assumption) ?_
  try simp only [Act.put, List.getElem_toArray, List.getElem_cons_zero, List.getElem_cons_succ, List.setIfInBounds_toArray, List.set_cons_zero, List.set_cons_succ]
  refine wpAnyH_take (i := 9) (v := undef) rfl (by kernel_rfl) (by kernel_rfl) (by kernel_rfl) (fun _ _ _ h => h) (Or.inr ⟨by rfl, rfl⟩) (by assumption) ?_
  try simp only [Act.put, List.getElem_toArray, List.getElem_cons_zero, List.getElem_cons_succ, List.setIfInBounds_toArray, List.set_cons_zero, List.set_cons_succ]
  refine wpAnyH_take (i := 10) (v := undef) rfl (by kernel_rfl) (by kernel_rfl) (by kernel_rfl) (fun _ _ _ h => h) (Or.inr ⟨by rfl, rfl⟩) (by assumption) ?_
  try simp only [Act.put, List.getElem_toArray, List.getElem_cons_zero, List.getElem_cons_succ, List.setIfInBounds_toArray, List.set_cons_zero, List.set_cons_succ]
  refine wpAnyH_take (i := 11) (v := ?_) rfl (by kernel_rfl) (by kernel_rfl) (by kernel_rfl) (fun _ _ _ h => h) (Or.inl ⟨by rfl, ?_⟩) (by assumption) ?_
  rotate_left
  first | (focus ((intro w hSw; (try dsimp only at hSw); go_simp); (try with_reducible rfl); done)) | fail
  try simp only [Act.put, List.getElem_toArray, List.getElem_cons_zero, List.getElem_cons_succ, List.setIfInBounds_toArray, List.set_cons_zero, List.set_cons_succ]
  refine wpAnyH_take (i := 12) (v := ?_) rfl (by kernel_rfl) (by kernel_rfl) (by kernel_rfl) (fun _ _ _ h => h) (Or.inl ⟨by rfl, ?_⟩) (by assumption) ?_
  rotate_left
  first | (focus ((intro w hSw; (try dsimp only at hSw); go_simp); (try with_reducible rfl); done)) | fail
  try simp only [Act.put, List.getElem_toArray, List.getElem_cons_zero, List.getElem_cons_succ, List.setIfInBounds_toArray, List.set_cons_zero, List.set_cons_succ]
  refine wpAnyH_take (i := 13) (v := undef) rfl (by kernel_rfl) (by kernel_rfl) (by kernel_rfl) (fun _ _ _ h => h) (Or.inr ⟨by rfl, rfl⟩) (by assumption) ?_
  try simp only [Act.put, List.getElem_toArray, List.getElem_cons_zero, List.getElem_cons_succ, List.setIfInBounds_toArray, List.set_cons_zero, List.set_cons_succ]
  refine wpAnyH_take (i := 14) (v := undef) rfl (by kernel_rfl) (by kernel_rfl) (by kernel_rfl) (fun _ _ _ h => h) (Or.inr ⟨by rfl, rfl⟩) (by assumption) ?_
  try simp only [Act.put, List.getElem_toArray, List.getElem_cons_zero, List.getElem_cons_succ, List.setIfInBounds_toArray, List.set_cons_zero, List.set_cons_succ]
  refine wpAnyH_take (i := 15) (v := undef) rfl (by kernel_rfl) (by kernel_rfl) (by kernel_rfl) (fun _ _ _ h => h) (Or.inr ⟨by rfl, rfl⟩) (by assumption) ?_
  try simp only [Act.put, List.getElem_toArray, List.getElem_cons_zero, List.getElem_cons_succ, List.setIfInBounds_toArray, List.set_cons_zero, List.set_cons_succ]
  refine wpAnyH_take (i := 16) (v := undef) rfl (by kernel_rfl) (by kernel_rfl) (by kernel_rfl) (fun _ _ _ h => h) (Or.inr ⟨by rfl, rfl⟩) (by assumption) ?_
  try simp only [Act.put, List.getElem_toArray, List.getElem_cons_zero, List.getElem_cons_succ, List.setIfInBounds_toArray, List.set_cons_zero, List.set_cons_succ]
  refine wpAnyH_take (i := 17) (v := undef) rfl (by kernel_rfl) (by kernel_rfl) (by kernel_rfl) (fun _ _ _ h => h) (Or.inr ⟨by rfl, rfl⟩) (by assumption) ?_
  try simp only [Act.put, List.getElem_toArray, List.getElem_cons_zero, List.getElem_cons_succ, List.setIfInBounds_toArray, List.set_cons_zero, List.set_cons_succ]
  refine wpAnyH_take (i := 18) (v := undef) rfl (by kernel_rfl) (by kernel_rfl) (by kernel_rfl) (fun _ _ _ h => h) (Or.inr ⟨by rfl, rfl⟩) (by assumption) ?_
  try simp only [Act.put, List.getElem_toArray, List.getElem_cons_zero, List.getElem_cons_succ, List.setIfInBounds_toArray, List.set_cons_zero, List.set_cons_succ]
  refine wpAnyH_take (i := 19) (v := ?_) rfl (by kernel_rfl) (by kernel_rfl) (by kernel_rfl) (fun _ _ _ h => h) (Or.inl ⟨by rfl, ?_⟩) (by assumption) ?_
  rotate_left
  first | (focus ((intro w hSw; (try dsimp only at hSw); go_simp); (try with_reducible rfl); done)) | fail
  try simp only [Act.put, List.getElem_toArray, List.getElem_cons_zero, List.getElem_cons_succ, List.setIfInBounds_toArray, List.set_cons_zero, List.set_cons_succ]
  refine wpAnyH_take (i := 20) (v := ?_) rfl (by kernel_rfl) (by kernel_rfl) (by kernel_rfl) (fun _ _ _ h => h) (Or.inl ⟨by rfl, ?_⟩) (by assumption) ?_
  rotate_left
  first | (focus ((intro w hSw; (try dsimp only at hSw); go_simp); (try with_reducible rfl); done)) | fail
  try simp only [Act.put, List.getElem_toArray, List.getElem_cons_zero, List.getElem_cons_succ, List.setIfInBounds_toArray, List.set_cons_zero, List.set_cons_succ]
  refine wpAnyH_done (by kernel_rfl) ?_ _
  go_wp2
  go_ret
  exact ⟨rfl, B0.out.drew.trans (below_of_le b1 (show N ≤ W.heap.size by have := HS.out; omega))⟩
set_option maxHeartbeats 1000000 in
theorem vctake_off (x : Dt) (w : World) (p : Option Addr) (M : List Dt) (h : VecAt w p M) (hr : rightD x = true) (hne : mget M x.1 + 1 ≠ x.2) :
    Calls Try.prog 20 #[.pointer p, dtV x] w fun e w' => e = .returned (.bool false) ∧ Below w.heap.size w w' := by
  obtain ⟨⟨d, i⟩, s⟩ := x
  have hr' : dotB d i s = true := hr
  have CR := Lib.hid (fun w => right_any d i s w)
  rw [hr'] at CR
  have CG := Lib.hid (fun W hW => vcget_any (d, i) (acOk_right hr) W p M hW)
  have H := Lib.hid (C3.new w d i s 27)
  have B0 := Lib.hid ((Below.refl w.heap.size w).alloc (Nat.le_refl _) (.cells #[.int .i64 d, .int .i64 i, .int .i64 s] 27))
  have HV := Lib.hid (h.up B0.out)
  have hs0 : (w.alloc (.cells #[.int .i64 d, .int .i64 i, .int .i64 s] 27)).heap.size = w.heap.size + 1 := by simp
  have HS := Lib.hid hs0
  have hb := (rightD_iff _).1 hr
  simp only at hb hne
  have hw1 : IntKind.i64.wrap (s - 1) = s - 1 := by rw [IntKind.wrap_i64]; omega
  generalize hq : mget M (d, i) = q at *
  have he : (s - 1 == q) = false := by simp; omega
  unfold dtV
  unfold dotV at CR
  unfold acV at CG
  generalize hN : w.heap.size = N at *
  clear hr hr' hs0 hb hne hq h
  go_enter Try.func20, Try.ntmps20
  go_wp2_with fail
  generalize (w.alloc (.cells #[.int .i64 d, .int .i64 i, .int .i64 s] 27)) = W at *
  refine wp_region_held_drew (S := (fun W => W.cell? ⟨N, 0, none⟩ = some (.int .i64 d) ∧ W.cell? ⟨N, 1, none⟩ = some (.int .i64 i) ∧ W.cell? ⟨N, 2, none⟩ = some (.int .i64 s))) (by kernel_rfl) ?_ (fun hHeld => ?_)
  · (try dsimp only); exact H.out
  refine wpAnyH_take (i := 0) (v := ?_) rfl (by kernel_rfl) (by kernel_rfl) (by kernel_rfl) (fun _ _ _ h => h) (Or.inl ⟨by rfl, ?_⟩) (by assumption) ?_
  rotate_left
  first | (focus ((intro w hSw; (try dsimp only at hSw); go_simp); (try with_reducible rfl); done)) | fail
  try simp only [Act.put, List.getElem_toArray, List.getElem_cons_zero, List.setIfInBounds_toArray, List.set_cons_zero, List.set_cons_succ]
  refine wpAnyH_ready (rs := [1]) (by kernel_rfl) (by simp) ?_
  refine AllReadyH.cons rfl (fun K hK => ?_) AllReadyH.nil
  go_simp
  refine (CR.out _).mono ?_; rintro e w1 ⟨rfl, b1⟩
  go_wp2_with fail
  refine hK.out _ _ ?_ (fun hHeld => ?_)
  · (try dsimp only); exact C3.up hHeld (show N < W.heap.size by have := HS.out; omega) b1
  clear hK K
  try simp only [Act.put, List.getElem_toArray, List.getElem_cons_zero, List.getElem_cons_succ, List.setIfInBounds_toArray, List.set_cons_zero, List.set_cons_succ]
  have hs1 : N < w1.heap.size := by have := HS.out; have := b1.size; simp only [World.drew] at this; omega
  refine wpAnyH_take (i := 2) (v := ?_) rfl (by kernel_rfl) (by kernel_rfl) (by kernel_rfl) (fun _ _ _ h => h) (Or.inl ⟨by rfl, ?_⟩) (by assumption) ?_
  rotate_left
  first | (focus ((intro w hSw; (try dsimp only at hSw); go_simp); (try with_reducible rfl); done)) | fail
  try simp only [Act.put, List.getElem_toArray, List.getElem_cons_zero, List.getElem_cons_succ, List.setIfInBounds_toArray, List.set_cons_zero, List.set_cons_succ]
  refine wpAnyH_take (i := 3) (v := ?_) rfl (by kernel_rfl) (by kernel_rfl) (by kernel_rfl) (fun _ _ _ h => h) (Or.inl ⟨by rfl, ?_⟩) (by assumption) ?_
  rotate_left
  first | (focus ((intro w hSw; (try dsimp only at hSw); go_simp); (try with_reducible rfl); done)) | fail
  try simp only [Act.put, List.getElem_toArray, List.getElem_cons_zero, List.getElem_cons_succ, List.setIfInBounds_toArray, List.set_cons_zero, List.set_cons_succ]
  refine wpAnyH_take (i := 4) (v := ?_) rfl (by kernel_rfl) (by kernel_rfl) (by kernel_rfl) (fun _ _ _ h => h) (Or.inl ⟨by rfl, ?_⟩) (by assumption) ?_
  rotate_left
  first | (focus ((intro w hSw; (try dsimp only at hSw); go_simp); (try with_reducible rfl); done)) | fail
  try simp only [Act.put, List.getElem_toArray, List.getElem_cons_zero, List.getElem_cons_succ, List.setIfInBounds_toArray, List.set_cons_zero, List.set_cons_succ]
  refine wpAnyH_take (i := 5) (v := ?_) rfl (by kernel_rfl) (by kernel_rfl) (by kernel_rfl) (fun _ _ _ h => h) (Or.inl ⟨by rfl, ?_⟩) (by assumption) ?_
  rotate_left
  first | (focus ((intro w hSw; (try dsimp only at hSw); go_simp); (try with_reducible rfl); done)) | fail
  try simp only [Act.put, List.getElem_toArray, List.getElem_cons_zero, List.getElem_cons_succ, List.setIfInBounds_toArray, List.set_cons_zero, List.set_cons_succ]
  refine wpAnyH_take (i := 6) (v := ?_) rfl (by kernel_rfl) (by kernel_rfl) (by kernel_rfl) (fun _ _ _ h => h) (Or.inl ⟨by rfl, ?_⟩) (by assumption) ?_
  rotate_left
  first | (focus ((intro w hSw; (try dsimp only at hSw); go_simp); (try with_reducible rfl); done)) | fail
  try simp only [Act.put, List.getElem_toArray, List.getElem_cons_zero, List.getElem_cons_succ, List.setIfInBounds_toArray, List.set_cons_zero, List.set_cons_succ]
  refine wpAnyH_take (i := 7) (v := ?_) rfl (by kernel_rfl) (by kernel_rfl) (by kernel_rfl) (fun _ _ _ h => h) (Or.inl ⟨by rfl, ?_⟩) (by assumption) ?_
  rotate_left
  first | (focus ((intro w hSw; (try dsimp only at hSw); go_simp); (try with_reducible rfl); done)) | fail
  try simp only [Act.put, List.getElem_toArray, List.getElem_cons_zero, List.getElem_cons_succ, List.setIfInBounds_toArray, List.set_cons_zero, List.set_cons_succ]
  refine wpAnyH_take (i := 8) (v := ?_) rfl (by kernel_rfl) (by kernel_rfl) (by kernel_rfl) (fun _ _ _ h => h) (Or.inl ⟨by rfl, ?_⟩) (by assumption) ?_
  rotate_left
  first | (focus ((intro w hSw; (try dsimp only at hSw); go_simp); (try with_reducible rfl); done)) | fail
  try simp only [Act.put, List.getElem_toArray, List.getElem_cons_zero, List.getElem_cons_succ, List.setIfInBounds_toArray, List.set_cons_zero, List.set_cons_succ]
  refine wpAnyH_ready (rs := [9]) (by kernel_rfl) (by simp) ?_
  refine AllReadyH.cons rfl (fun K hK => ?_) AllReadyH.nil
  go_simp
  refine (CG.out _ ((VecAt.up HV.out (Below.drew (Below.refl _ _))).up b1)).mono ?_; rintro e w2 ⟨rfl, b2⟩
  go_wp2_with fail
  refine hK.out _ _ ?_ (fun hHeld => ?_)
  · (try dsimp only); exact C3.up hHeld hs1 b2
  clear hK K
  try simp only [Act.put, List.getElem_toArray, List.getElem_cons_zero, List.getElem_cons_succ, List.setIfInBounds_toArray, List.set_cons_zero, List.set_cons_succ]
  refine wpAnyH_take (i := 10) (v := ?_) rfl (by kernel_rfl) (by kernel_rfl) (by kernel_rfl) (fun _ _ _ h => h) (Or.inl ⟨by rfl, ?_⟩) (by assumption) ?_
  rotate_left
  first | (focus ((intro w hSw; (try dsimp only at hSw); go_simp); (try with_reducible rfl); done)) | fail
  try simp only [Act.put, List.getElem_toArray, List.getElem_cons_zero, List.getElem_cons_succ, List.setIfInBounds_toArray, List.set_cons_zero, List.set_cons_succ]
  refine wpAnyH_take (i := 11) (v := ?_) rfl (by kernel_rfl) (by kernel_rfl) (by kernel_rfl) (fun _ _ _ h => h) (Or.inl ⟨by rfl, ?_⟩) (by assumption) ?_
  rotate_left
  first | (focus ((intro w hSw; (try dsimp only at hSw); go_simp); (try with_reducible rfl); done)) | fail
  try simp only [Act.put, List.getElem_toArray, List.getElem_cons_zero, List.getElem_cons_succ, List.setIfInBounds_toArray, List.set_cons_zero, List.set_cons_succ]
  refine wpAnyH_take (i := 12) (v := ?_) rfl (by kernel_rfl) (by kernel_rfl) (by kernel_rfl) (fun _ _ _ h => h) (Or.inl ⟨by rfl, ?_⟩) (by assumption) ?_
  rotate_left
  first | (focus ((intro w hSw; (try dsimp only at hSw); go_simp); (try with_reducible rfl); done)) | fail
  try simp only [Act.put, List.getElem_toArray, List.getElem_cons_zero, List.getElem_cons_succ, List.setIfInBounds_toArray, List.set_cons_zero, List.set_cons_succ]
  refine wpAnyH_take (i := 13) (v := undef) rfl (by kernel_rfl) (by kernel_rfl) (by kernel_rfl) (fun _ _ _ h => h) (Or.inr ⟨by rfl, rfl⟩) (by assumption) ?_
  try simp only [Act.put, List.getElem_toArray, List.getElem_cons_zero, List.getElem_cons_succ, List.setIfInBounds_toArray, List.set_cons_zero, List.set_cons_succ]
  refine wpAnyH_take (i := 14) (v := undef) rfl (by kernel_rfl) (by kernel_rfl) (by kernel_rfl) (fun _ _ _ h => h) (Or.inr ⟨by rfl, rfl⟩) (by assumption) ?_
  try simp only [Act.put, List.getElem_toArray, List.getElem_cons_zero, List.getElem_cons_succ, List.setIfInBounds_toArray, List.set_cons_zero, List.set_cons_succ]
  refine wpAnyH_take (i := 15) (v := undef) rfl (by kernel_rfl) (by kernel_rfl) (by kernel_rfl) (fun _ _ _ h => h) (Or.inr ⟨by rfl, rfl⟩) (by assumption) ?_
  try simp only [Act.put, List.getElem_toArray, List.getElem_cons_zero, List.getElem_cons_succ, List.setIfInBounds_toArray, List.set_cons_zero, List.set_cons_succ]
  refine wpAnyH_take (i := 16) (v := undef) rfl (by kernel_rfl) (by kernel_rfl) (by kernel_rfl) (fun _ _ _ h => h) (Or.inr ⟨by rfl, rfl⟩) (by assumption) ?_
  try simp only [Act.put, List.getElem_toArray, List.getElem_cons_zero, List.getElem_cons_succ, List.setIfInBounds_toArray, List.set_cons_zero, List.set_cons_succ]
  refine wpAnyH_take (i := 17) (v := undef) rfl (by kernel_rfl) (by kernel_rfl) (by kernel_rfl) (fun _ _ _ h => h) (Or.inr ⟨by rfl, rfl⟩) (by assumption) ?_
  try simp only [Act.put, List.getElem_toArray, List.getElem_cons_zero, List.getElem_cons_succ, List.setIfInBounds_toArray, List.set_cons_zero, List.set_cons_succ]
  refine wpAnyH_take (i := 18) (v := undef) rfl (by kernel_rfl) (by kernel_rfl) (by kernel_rfl) (fun _ _ _ h => h) (Or.inr ⟨by rfl, rfl⟩) (by assumption) ?_
  try simp only [Act.put, List.getElem_toArray, List.getElem_cons_zero, List.getElem_cons_succ, List.setIfInBounds_toArray, List.set_cons_zero, List.set_cons_succ]
  refine wpAnyH_take (i := 19) (v := ?_) rfl (by kernel_rfl) (by kernel_rfl) (by kernel_rfl) (fun _ _ _ h => h) (Or.inl ⟨by rfl, ?_⟩) (by assumption) ?_
  rotate_left
  first | (focus ((intro w hSw; (try dsimp only at hSw); go_simp); (try with_reducible rfl); done)) | fail
  try simp only [Act.put, List.getElem_toArray, List.getElem_cons_zero, List.getElem_cons_succ, List.setIfInBounds_toArray, List.set_cons_zero, List.set_cons_succ]
  refine wpAnyH_take (i := 20) (v := ?_) rfl (by kernel_rfl) (by kernel_rfl) (by kernel_rfl) (fun _ _ _ h => h) (Or.inl ⟨by rfl, ?_⟩) (by assumption) ?_
  rotate_left
  first | (focus ((intro w hSw; (try dsimp only at hSw); go_simp); (try with_reducible rfl); done)) | fail
  try simp only [Act.put, List.getElem_toArray, List.getElem_cons_zero, List.getElem_cons_succ, List.setIfInBounds_toArray, List.set_cons_zero, List.set_cons_succ]
  refine wpAnyH_done (by kernel_rfl) ?_ _
  go_wp2
  go_ret
  exact ⟨rfl, (B0.out.drew.trans (below_of_le b1 (show N ≤ W.heap.size by have := HS.out; omega))).trans (below_of_le b2 (by omega))⟩
set_option maxHeartbeats 1000000 in
theorem vctake_on (x : Dt) (w : World) (v b : Nat) (M : List Dt) (h : VecIs w v b M) (hr : rightD x = true) (hne : mget M x.1 + 1 = x.2) :
    Calls Try.prog 20 #[.pointer (some ⟨v, 0, none⟩), dtV x] w (RaiseEnd w v b (rset M x.1 x.2) true) := by
  obtain ⟨⟨d, i⟩, s⟩ := x
  have hr' : dotB d i s = true := hr
  have CR := Lib.hid (fun w => right_any d i s w)
  rw [hr'] at CR
  have CG := Lib.hid (fun W hW => vcget_any (d, i) (acOk_right hr) W (some ⟨v, 0, none⟩) M hW)
  have CA := Lib.hid (fun W hW => vcraise_any (d, i) s W v b M hW)
  have H := Lib.hid (C3.new w d i s 27)
  have B0 := Lib.hid ((Below.refl w.heap.size w).alloc (Nat.le_refl _) (.cells #[.int .i64 d, .int .i64 i, .int .i64 s] 27))
  have HV := Lib.hid (h.up B0.out)
  have hs0 : (w.alloc (.cells #[.int .i64 d, .int .i64 i, .int .i64 s] 27)).heap.size = w.heap.size + 1 := by simp
  have HS := Lib.hid hs0
  have hb := (rightD_iff _).1 hr
  simp only at hb hne
  have hw1 : IntKind.i64.wrap (s - 1) = s - 1 := by rw [IntKind.wrap_i64]; omega
  have hq : mget M (d, i) = s - 1 := by omega
  have hrb : raisedB M (d, i) s = true := by unfold raisedB; rw [hr, hq]; simp; omega
  have hrr : rraise M (d, i) s = rset M (d, i) s := by unfold rraise; rw [hrb]; rfl
  rw [hrb, hrr] at CA
  rw [hq] at CG
  have hltb := Lib.hid h.ltb
  simp only
  generalize rset M (d, i) s = M' at *
  unfold dtV
  unfold dotV at CR
  unfold acV at CG CA
  generalize hN : w.heap.size = N at *
  clear hr hr' hs0 hb hne hq h hrb hrr
  go_enter Try.func20, Try.ntmps20
  go_wp2_with fail
  generalize (w.alloc (.cells #[.int .i64 d, .int .i64 i, .int .i64 s] 27)) = W at *
  refine wp_region_held_drew (S := (fun W => W.cell? ⟨N, 0, none⟩ = some (.int .i64 d) ∧ W.cell? ⟨N, 1, none⟩ = some (.int .i64 i) ∧ W.cell? ⟨N, 2, none⟩ = some (.int .i64 s))) (by kernel_rfl) ?_ (fun hHeld => ?_)
  · (try dsimp only); exact H.out
  refine wpAnyH_take (i := 0) (v := ?_) rfl (by kernel_rfl) (by kernel_rfl) (by kernel_rfl) (fun _ _ _ h => h) (Or.inl ⟨by rfl, ?_⟩) (by assumption) ?_
  rotate_left
  first | (focus ((intro w hSw; (try dsimp only at hSw); go_simp); (try with_reducible rfl); done)) | fail
  try simp only [Act.put, List.getElem_toArray, List.getElem_cons_zero, List.setIfInBounds_toArray, List.set_cons_zero, List.set_cons_succ]
  refine wpAnyH_ready (rs := [1]) (by kernel_rfl) (by simp) ?_
  refine AllReadyH.cons rfl (fun K hK => ?_) AllReadyH.nil
  go_simp
  refine (CR.out _).mono ?_; rintro e w1 ⟨rfl, b1⟩
  go_wp2_with fail
  refine hK.out _ _ ?_ (fun hHeld => ?_)
  · (try dsimp only); exact C3.up hHeld (show N < W.heap.size by have := HS.out; omega) b1
  clear hK K
  try simp only [Act.put, List.getElem_toArray, List.getElem_cons_zero, List.getElem_cons_succ, List.setIfInBounds_toArray, List.set_cons_zero, List.set_cons_succ]
  have hs1 : N < w1.heap.size := by have := HS.out; have := b1.size; simp only [World.drew] at this; omega
  have hv1 := Lib.hid ((HV.out.drew).up b1)
  refine wpAnyH_take (i := 2) (v := ?_) rfl (by kernel_rfl) (by kernel_rfl) (by kernel_rfl) (fun _ _ _ h => h) (Or.inl ⟨by rfl, ?_⟩) (by assumption) ?_
  rotate_left
  first | (focus ((intro w hSw; (try dsimp only at hSw); go_simp); (try with_reducible rfl); done)) | fail
  try simp only [Act.put, List.getElem_toArray, List.getElem_cons_zero, List.getElem_cons_succ, List.setIfInBounds_toArray, List.set_cons_zero, List.set_cons_succ]
  refine wpAnyH_take (i := 3) (v := ?_) rfl (by kernel_rfl) (by kernel_rfl) (by kernel_rfl) (fun _ _ _ h => h) (Or.inl ⟨by rfl, ?_⟩) (by assumption) ?_
  rotate_left
  first | (focus ((intro w hSw; (try dsimp only at hSw); go_simp); (try with_reducible rfl); done)) | fail
  try simp only [Act.put, List.getElem_toArray, List.getElem_cons_zero, List.getElem_cons_succ, List.setIfInBounds_toArray, List.set_cons_zero, List.set_cons_succ]
  refine wpAnyH_take (i := 4) (v := ?_) rfl (by kernel_rfl) (by kernel_rfl) (by kernel_rfl) (fun _ _ _ h => h) (Or.inl ⟨by rfl, ?_⟩) (by assumption) ?_
  rotate_left
  first | (focus ((intro w hSw; (try dsimp only at hSw); go_simp); (try with_reducible rfl); done)) | fail
  try simp only [Act.put, List.getElem_toArray, List.getElem_cons_zero, List.getElem_cons_succ, List.setIfInBounds_toArray, List.set_cons_zero, List.set_cons_succ]
  refine wpAnyH_take (i := 5) (v := ?_) rfl (by kernel_rfl) (by kernel_rfl) (by kernel_rfl) (fun _ _ _ h => h) (Or.inl ⟨by rfl, ?_⟩) (by assumption) ?_
  rotate_left
  first | (focus ((intro w hSw; (try dsimp only at hSw); go_simp); (try with_reducible rfl); done)) | fail
  try simp only [Act.put, List.getElem_toArray, List.getElem_cons_zero, List.getElem_cons_succ, List.setIfInBounds_toArray, List.set_cons_zero, List.set_cons_succ]
  refine wpAnyH_take (i := 6) (v := ?_) rfl (by kernel_rfl) (by kernel_rfl) (by kernel_rfl) (fun _ _ _ h => h) (Or.inl ⟨by rfl, ?_⟩) (by assumption) ?_
  rotate_left
  first | (focus ((intro w hSw; (try dsimp only at hSw); go_simp); (try with_reducible rfl); done)) | fail
  try simp only [Act.put, List.getElem_toArray, List.getElem_cons_zero, List.getElem_cons_succ, List.setIfInBounds_toArray, List.set_cons_zero, List.set_cons_succ]
  refine wpAnyH_take (i := 7) (v := ?_) rfl (by kernel_rfl) (by kernel_rfl) (by kernel_rfl) (fun _ _ _ h => h) (Or.inl ⟨by rfl, ?_⟩) (by assumption) ?_
  rotate_left
  first | (focus ((intro w hSw; (try dsimp only at hSw); go_simp); (try with_reducible rfl); done)) | fail
  try simp only [Act.put, List.getElem_toArray, List.getElem_cons_zero, List.getElem_cons_succ, List.setIfInBounds_toArray, List.set_cons_zero, List.set_cons_succ]
  refine wpAnyH_take (i := 8) (v := ?_) rfl (by kernel_rfl) (by kernel_rfl) (by kernel_rfl) (fun _ _ _ h => h) (Or.inl ⟨by rfl, ?_⟩) (by assumption) ?_
  rotate_left
  first | (focus ((intro w hSw; (try dsimp only at hSw); go_simp); (try with_reducible rfl); done)) | fail
  try simp only [Act.put, List.getElem_toArray, List.getElem_cons_zero, List.getElem_cons_succ, List.setIfInBounds_toArray, List.set_cons_zero, List.set_cons_succ]
  refine wpAnyH_ready (rs := [9]) (by kernel_rfl) (by simp) ?_
  refine AllReadyH.cons rfl (fun K hK => ?_) AllReadyH.nil
  go_simp
  refine (CG.out _ hv1.out.at_).mono ?_; rintro e w2 ⟨rfl, b2⟩
  go_wp2_with fail
  refine hK.out _ _ ?_ (fun hHeld => ?_)
  · (try dsimp only); exact C3.up hHeld hs1 b2
  clear hK K
  try simp only [Act.put, List.getElem_toArray, List.getElem_cons_zero, List.getElem_cons_succ, List.setIfInBounds_toArray, List.set_cons_zero, List.set_cons_succ]
  have hs2 : N < w2.heap.size := by have := b2.size; omega
  have hv2 := Lib.hid (hv1.out.up b2)
  refine wpAnyH_take (i := 10) (v := ?_) rfl (by kernel_rfl) (by kernel_rfl) (by kernel_rfl) (fun _ _ _ h => h) (Or.inl ⟨by rfl, ?_⟩) (by assumption) ?_
  rotate_left
  first | (focus ((intro w hSw; (try dsimp only at hSw); go_simp); (try with_reducible rfl); done)) | fail
  try simp only [Act.put, List.getElem_toArray, List.getElem_cons_zero, List.getElem_cons_succ, List.setIfInBounds_toArray, List.set_cons_zero, List.set_cons_succ]
  refine wpAnyH_take (i := 11) (v := ?_) rfl (by kernel_rfl) (by kernel_rfl) (by kernel_rfl) (fun _ _ _ h => h) (Or.inl ⟨by rfl, ?_⟩) (by assumption) ?_
  rotate_left
  first | (focus ((intro w hSw; (try dsimp only at hSw); go_simp); (try with_reducible rfl); done)) | fail
  try simp only [Act.put, List.getElem_toArray, List.getElem_cons_zero, List.getElem_cons_succ, List.setIfInBounds_toArray, List.set_cons_zero, List.set_cons_succ]
  refine wpAnyH_take (i := 12) (v := ?_) rfl (by kernel_rfl) (by kernel_rfl) (by kernel_rfl) (fun _ _ _ h => h) (Or.inl ⟨by rfl, ?_⟩) (by assumption) ?_
  rotate_left
  first | (focus ((intro w hSw; (try dsimp only at hSw); go_simp); (try with_reducible rfl); done)) | fail
  try simp only [Act.put, List.getElem_toArray, List.getElem_cons_zero, List.getElem_cons_succ, List.setIfInBounds_toArray, List.set_cons_zero, List.set_cons_succ]
  refine wpAnyH_take (i := 13) (v := ?_) rfl (by kernel_rfl) (by kernel_rfl) (by kernel_rfl) (fun _ _ _ h => h) (Or.inl ⟨by rfl, ?_⟩) (by assumption) ?_
  rotate_left
  first | (focus ((intro w hSw; (try dsimp only at hSw); go_simp); (try with_reducible rfl); done)) | fail
  try simp only [Act.put, List.getElem_toArray, List.getElem_cons_zero, List.getElem_cons_succ, List.setIfInBounds_toArray, List.set_cons_zero, List.set_cons_succ]
  refine wpAnyH_take (i := 14) (v := ?_) rfl (by kernel_rfl) (by kernel_rfl) (by kernel_rfl) (fun _ _ _ h => h) (Or.inl ⟨by rfl, ?_⟩) (by assumption) ?_
  rotate_left
  first | (focus ((intro w hSw; (try dsimp only at hSw); go_simp); (try with_reducible rfl); done)) | fail
  try simp only [Act.put, List.getElem_toArray, List.getElem_cons_zero, List.getElem_cons_succ, List.setIfInBounds_toArray, List.set_cons_zero, List.set_cons_succ]
  refine wpAnyH_take (i := 15) (v := ?_) rfl (by kernel_rfl) (by kernel_rfl) (by kernel_rfl) (fun _ _ _ h => h) (Or.inl ⟨by rfl, ?_⟩) (by assumption) ?_
  rotate_left
  first | (focus ((intro w hSw; (try dsimp only at hSw); go_simp); (try with_reducible rfl); done)) | fail
  try simp only [Act.put, List.getElem_toArray, List.getElem_cons_zero, List.getElem_cons_succ, List.setIfInBounds_toArray, List.set_cons_zero, List.set_cons_succ]
  refine wpAnyH_take (i := 16) (v := ?_) rfl (by kernel_rfl) (by kernel_rfl) (by kernel_rfl) (fun _ _ _ h => h) (Or.inl ⟨by rfl, ?_⟩) (by assumption) ?_
  rotate_left
  first | (focus ((intro w hSw; (try dsimp only at hSw); go_simp); (try with_reducible rfl); done)) | fail
  try simp only [Act.put, List.getElem_toArray, List.getElem_cons_zero, List.getElem_cons_succ, List.setIfInBounds_toArray, List.set_cons_zero, List.set_cons_succ]
  refine wpAnyH_take (i := 17) (v := ?_) rfl (by kernel_rfl) (by kernel_rfl) (by kernel_rfl) (fun _ _ _ h => h) (Or.inl ⟨by rfl, ?_⟩) (by assumption) ?_
  rotate_left
  first | (focus ((intro w hSw; (try dsimp only at hSw); go_simp); (try with_reducible rfl); done)) | fail
  try simp only [Act.put, List.getElem_toArray, List.getElem_cons_zero, List.getElem_cons_succ, List.setIfInBounds_toArray, List.set_cons_zero, List.set_cons_succ]
  refine wpAnyH_ready (rs := [18]) (by kernel_rfl) (by simp) ?_
  refine AllReadyH.cons rfl (fun K hK => ?_) AllReadyH.nil
  go_simp
  refine (CA.out _ hv2.out).mono ?_; rintro e w3 ⟨rfl, hv3, hc3⟩
  go_wp2_with fail
  refine hK.out _ _ ?_ (fun hHeld => ?_)
  · (try dsimp only); exact C3.blk hHeld (hc3.block N hs2 (by have := hltb.out; omega))
  clear hK K
  try simp only [Act.put, List.getElem_toArray, List.getElem_cons_zero, List.getElem_cons_succ, List.setIfInBounds_toArray, List.set_cons_zero, List.set_cons_succ]
  refine wpAnyH_take (i := 19) (v := ?_) rfl (by kernel_rfl) (by kernel_rfl) (by kernel_rfl) (fun _ _ _ h => h) (Or.inl ⟨by rfl, ?_⟩) (by assumption) ?_
  rotate_left
  first | (focus ((intro w hSw; (try dsimp only at hSw); go_simp); (try with_reducible rfl); done)) | fail
  try simp only [Act.put, List.getElem_toArray, List.getElem_cons_zero, List.getElem_cons_succ, List.setIfInBounds_toArray, List.set_cons_zero, List.set_cons_succ]
  refine wpAnyH_take (i := 20) (v := ?_) rfl (by kernel_rfl) (by kernel_rfl) (by kernel_rfl) (fun _ _ _ h => h) (Or.inl ⟨by rfl, ?_⟩) (by assumption) ?_
  rotate_left
  first | (focus ((intro w hSw; (try dsimp only at hSw); go_simp); (try with_reducible rfl); done)) | fail
  try simp only [Act.put, List.getElem_toArray, List.getElem_cons_zero, List.getElem_cons_succ, List.setIfInBounds_toArray, List.set_cons_zero, List.set_cons_succ]
  refine wpAnyH_done (by kernel_rfl) ?_ _
  go_wp2
  go_ret
  have hb2 : Below N w w2 := (B0.out.drew.trans (below_of_le b1 (show N ≤ W.heap.size by have := HS.out; omega))).trans (below_of_le b2 (by omega))
  exact ⟨rfl, hv3, (below_ch (by rw [hN]; exact hb2)).trans hc3 (fun k _ h => h)⟩
theorem vctake_any (x : Dt) (w : World) (v b : Nat) (M : List Dt) (h : VecIs w v b M) :
    Calls Try.prog 20 #[.pointer (some ⟨v, 0, none⟩), dtV x] w (RaiseEnd w v b (rtake M x) (takenB M x)) := by
  cases hr : rightD x
  · have e1 : takenB M x = false := by unfold takenB; rw [hr]; rfl
    have e2 : rtake M x = M := by unfold rtake; rw [e1]; rfl
    rw [e1, e2]
    exact (vctake_no x w _ hr).mono fun e w' ⟨he, hb⟩ => ⟨he, h.up hb, below_ch hb⟩
  · by_cases hne : mget M x.1 + 1 = x.2
    · have e1 : takenB M x = true := by unfold takenB; rw [hr]; simpa using hne
      have e2 : rtake M x = rset M x.1 x.2 := by unfold rtake; rw [e1]; rfl
      rw [e1, e2]
      exact vctake_on x w v b M h hr hne
    · have e1 : takenB M x = false := by unfold takenB; rw [hr]; simpa using hne
      have e2 : rtake M x = M := by unfold rtake; rw [e1]; rfl
      rw [e1, e2]
      exact (vctake_off x w _ M h.at_ hr hne).mono fun e w' ⟨he, hb⟩ => ⟨he, h.up hb, below_ch hb⟩
set_option maxHeartbeats 1000000 in
theorem vctake_nil1 (x : Dt) (w : World) (hr : rightD x = true) (hne : 1 = x.2) :
    Calls Try.prog 20 #[.pointer none, dtV x] w fun e w' => e = .returned (.bool false) ∧ Below w.heap.size w w' := by
  obtain ⟨⟨d, i⟩, s⟩ := x
  have hr' : dotB d i s = true := hr
  have CR := Lib.hid (fun w => right_any d i s w)
  rw [hr'] at CR
  have CG := Lib.hid (fun W => vcget_nil (d, i) W)
  have CA := Lib.hid (fun W => vcraise_nil (d, i) s W)
  have H := Lib.hid (C3.new w d i s 27)
  have B0 := Lib.hid ((Below.refl w.heap.size w).alloc (Nat.le_refl _) (.cells #[.int .i64 d, .int .i64 i, .int .i64 s] 27))
  have hs0 : (w.alloc (.cells #[.int .i64 d, .int .i64 i, .int .i64 s] 27)).heap.size = w.heap.size + 1 := by simp
  have HS := Lib.hid hs0
  have hb := (rightD_iff _).1 hr
  simp only at hb hne
  have hw1 : IntKind.i64.wrap (s - 1) = s - 1 := by rw [IntKind.wrap_i64]; omega
  have hq : (0 : Int) = s - 1 := by omega
  rw [hq] at CG
  unfold dtV
  unfold dotV at CR
  unfold acV at CG CA
  generalize hN : w.heap.size = N at *
  clear hr hr' hs0 hb hne hq
  go_enter Try.func20, Try.ntmps20
  go_wp2_with fail
  generalize (w.alloc (.cells #[.int .i64 d, .int .i64 i, .int .i64 s] 27)) = W at *
  refine wp_region_held_drew (S := (fun W => W.cell? ⟨N, 0, none⟩ = some (.int .i64 d) ∧ W.cell? ⟨N, 1, none⟩ = some (.int .i64 i) ∧ W.cell? ⟨N, 2, none⟩ = some (.int .i64 s))) (by kernel_rfl) ?_ (fun hHeld => ?_)
  · (try dsimp only); exact H.out
  refine wpAnyH_take (i := 0) (v := ?_) rfl (by kernel_rfl) (by kernel_rfl) (by kernel_rfl) (fun _ _ _ h => h) (Or.inl ⟨by rfl, ?_⟩) (by assumption) ?_
  rotate_left
  first | (focus ((intro w hSw; (try dsimp only at hSw); go_simp); (try with_reducible rfl); done)) | fail
  try simp only [Act.put, List.getElem_toArray, List.getElem_cons_zero, List.setIfInBounds_toArray, List.set_cons_zero, List.set_cons_succ]
  refine wpAnyH_ready (rs := [1]) (by kernel_rfl) (by simp) ?_
  refine AllReadyH.cons rfl (fun K hK => ?_) AllReadyH.nil
  go_simp
  refine (CR.out _).mono ?_; rintro e w1 ⟨rfl, b1⟩
  go_wp2_with fail
  refine hK.out _ _ ?_ (fun hHeld => ?_)
  · (try dsimp only); exact C3.up hHeld (show N < W.heap.size by have := HS.out; omega) b1
  clear hK K
  try simp only [Act.put, List.getElem_toArray, List.getElem_cons_zero, List.getElem_cons_succ, List.setIfInBounds_toArray, List.set_cons_zero, List.set_cons_succ]
  have hs1 : N < w1.heap.size := by have := HS.out; have := b1.size; simp only [World.drew] at this; omega
  refine wpAnyH_take (i := 2) (v := ?_) rfl (by kernel_rfl) (by kernel_rfl) (by kernel_rfl) (fun _ _ _ h => h) (Or.inl ⟨by rfl, ?_⟩) (by assumption) ?_
  rotate_left
  first | (focus ((intro w hSw; (try dsimp only at hSw); go_simp); (try with_reducible rfl); done)) | fail
  try simp only [Act.put, List.getElem_toArray, List.getElem_cons_zero, List.getElem_cons_succ, List.setIfInBounds_toArray, List.set_cons_zero, List.set_cons_succ]
  refine wpAnyH_take (i := 3) (v := ?_) rfl (by kernel_rfl) (by kernel_rfl) (by kernel_rfl) (fun _ _ _ h => h) (Or.inl ⟨by rfl, ?_⟩) (by assumption) ?_
  rotate_left
  first | (focus ((intro w hSw; (try dsimp only at hSw); go_simp); (try with_reducible rfl); done)) | fail
  try simp only [Act.put, List.getElem_toArray, List.getElem_cons_zero, List.getElem_cons_succ, List.setIfInBounds_toArray, List.set_cons_zero, List.set_cons_succ]
  refine wpAnyH_take (i := 4) (v := ?_) rfl (by kernel_rfl) (by kernel_rfl) (by kernel_rfl) (fun _ _ _ h => h) (Or.inl ⟨by rfl, ?_⟩) (by assumption) ?_
  rotate_left
  first | (focus ((intro w hSw; (try dsimp only at hSw); go_simp); (try with_reducible rfl); done)) | fail
  try simp only [Act.put, List.getElem_toArray, List.getElem_cons_zero, List.getElem_cons_succ, List.setIfInBounds_toArray, List.set_cons_zero, List.set_cons_succ]
  refine wpAnyH_take (i := 5) (v := ?_) rfl (by kernel_rfl) (by kernel_rfl) (by kernel_rfl) (fun _ _ _ h => h) (Or.inl ⟨by rfl, ?_⟩) (by assumption) ?_
  rotate_left
  first | (focus ((intro w hSw; (try dsimp only at hSw); go_simp); (try with_reducible rfl); done)) | fail
  try simp only [Act.put, List.getElem_toArray, List.getElem_cons_zero, List.getElem_cons_succ, List.setIfInBounds_toArray, List.set_cons_zero, List.set_cons_succ]
  refine wpAnyH_take (i := 6) (v := ?_) rfl (by kernel_rfl) (by kernel_rfl) (by kernel_rfl) (fun _ _ _ h => h) (Or.inl ⟨by rfl, ?_⟩) (by assumption) ?_
  rotate_left
  first | (focus ((intro w hSw; (try dsimp only at hSw); go_simp); (try with_reducible rfl); done)) | fail
  try simp only [Act.put, List.getElem_toArray, List.getElem_cons_zero, List.getElem_cons_succ, List.setIfInBounds_toArray, List.set_cons_zero, List.set_cons_succ]
  refine wpAnyH_take (i := 7) (v := ?_) rfl (by kernel_rfl) (by kernel_rfl) (by kernel_rfl) (fun _ _ _ h => h) (Or.inl ⟨by rfl, ?_⟩) (by assumption) ?_
  rotate_left
  first | (focus ((intro w hSw; (try dsimp only at hSw); go_simp); (try with_reducible rfl); done)) | fail
  try simp only [Act.put, List.getElem_toArray, List.getElem_cons_zero, List.getElem_cons_succ, List.setIfInBounds_toArray, List.set_cons_zero, List.set_cons_succ]
  refine wpAnyH_take (i := 8) (v := ?_) rfl (by kernel_rfl) (by kernel_rfl) (by kernel_rfl) (fun _ _ _ h => h) (Or.inl ⟨by rfl, ?_⟩) (by assumption) ?_
  rotate_left
  first | (focus ((intro w hSw; (try dsimp only at hSw); go_simp); (try with_reducible rfl); done)) | fail
  try simp only [Act.put, List.getElem_toArray, List.getElem_cons_zero, List.getElem_cons_succ, List.setIfInBounds_toArray, List.set_cons_zero, List.set_cons_succ]
  refine wpAnyH_ready (rs := [9]) (by kernel_rfl) (by simp) ?_
  refine AllReadyH.cons rfl (fun K hK => ?_) AllReadyH.nil
  go_simp
  refine (CG.out _).mono ?_; rintro e w2 ⟨rfl, b2⟩
  go_wp2_with fail
  refine hK.out _ _ ?_ (fun hHeld => ?_)
  · (try dsimp only); exact C3.up hHeld hs1 b2
  clear hK K
  try simp only [Act.put, List.getElem_toArray, List.getElem_cons_zero, List.getElem_cons_succ, List.setIfInBounds_toArray, List.set_cons_zero, List.set_cons_succ]
  have hs2 : N < w2.heap.size := by have := b2.size; omega
  refine wpAnyH_take (i := 10) (v := ?_) rfl (by kernel_rfl) (by kernel_rfl) (by kernel_rfl) (fun _ _ _ h => h) (Or.inl ⟨by rfl, ?_⟩) (by assumption) ?_
  rotate_left
  first | (focus ((intro w hSw; (try dsimp only at hSw); go_simp); (try with_reducible rfl); done)) | fail
  try simp only [Act.put, List.getElem_toArray, List.getElem_cons_zero, List.getElem_cons_succ, List.setIfInBounds_toArray, List.set_cons_zero, List.set_cons_succ]
  refine wpAnyH_take (i := 11) (v := ?_) rfl (by kernel_rfl) (by kernel_rfl) (by kernel_rfl) (fun _ _ _ h => h) (Or.inl ⟨by rfl, ?_⟩) (by assumption) ?_
  rotate_left
  first | (focus ((intro w hSw; (try dsimp only at hSw); go_simp); (try with_reducible rfl); done)) | fail
  try simp only [Act.put, List.getElem_toArray, List.getElem_cons_zero, List.getElem_cons_succ, List.setIfInBounds_toArray, List.set_cons_zero, List.set_cons_succ]
  refine wpAnyH_take (i := 12) (v := ?_) rfl (by kernel_rfl) (by kernel_rfl) (by kernel_rfl) (fun _ _ _ h => h) (Or.inl ⟨by rfl, ?_⟩) (by assumption) ?_
  rotate_left
  first | (focus ((intro w hSw; (try dsimp only at hSw); go_simp); (try with_reducible rfl); done)) | fail
  try simp only [Act.put, List.getElem_toArray, List.getElem_cons_zero, List.getElem_cons_succ, List.setIfInBounds_toArray, List.set_cons_zero, List.set_cons_succ]
  refine wpAnyH_take (i := 13) (v := ?_) rfl (by kernel_rfl) (by kernel_rfl) (by kernel_rfl) (fun _ _ _ h => h) (Or.inl ⟨by rfl, ?_⟩) (by assumption) ?_
  rotate_left
  first | (focus ((intro w hSw; (try dsimp only at hSw); go_simp); (try with_reducible rfl); done)) | fail
  try simp only [Act.put, List.getElem_toArray, List.getElem_cons_zero, List.getElem_cons_succ, List.setIfInBounds_toArray, List.set_cons_zero, List.set_cons_succ]
  refine wpAnyH_take (i := 14) (v := ?_) rfl (by kernel_rfl) (by kernel_rfl) (by kernel_rfl) (fun _ _ _ h => h) (Or.inl ⟨by rfl, ?_⟩) (by assumption) ?_
  rotate_left
  first | (focus ((intro w hSw; (try dsimp only at hSw); go_simp); (try with_reducible rfl); done)) | fail
  try simp only [Act.put, List.getElem_toArray, List.getElem_cons_zero, List.getElem_cons_succ, List.setIfInBounds_toArray, List.set_cons_zero, List.set_cons_succ]
  refine wpAnyH_take (i := 15) (v := ?_) rfl (by kernel_rfl) (by kernel_rfl) (by kernel_rfl) (fun _ _ _ h => h) (Or.inl ⟨by rfl, ?_⟩) (by assumption) ?_
  rotate_left
  first | (focus ((intro w hSw; (try dsimp only at hSw); go_simp); (try with_reducible rfl); done)) | fail
  try simp only [Act.put, List.getElem_toArray, List.getElem_cons_zero, List.getElem_cons_succ, List.setIfInBounds_toArray, List.set_cons_zero, List.set_cons_succ]
  refine wpAnyH_take (i := 16) (v := ?_) rfl (by kernel_rfl) (by kernel_rfl) (by kernel_rfl) (fun _ _ _ h => h) (Or.inl ⟨by rfl, ?_⟩) (by assumption) ?_
  rotate_left
  first | (focus ((intro w hSw; (try dsimp only at hSw); go_simp); (try with_reducible rfl); done)) | fail
  try simp only [Act.put, List.getElem_toArray, List.getElem_cons_zero, List.getElem_cons_succ, List.setIfInBounds_toArray, List.set_cons_zero, List.set_cons_succ]
  refine wpAnyH_take (i := 17) (v := ?_) rfl (by kernel_rfl) (by kernel_rfl) (by kernel_rfl) (fun _ _ _ h => h) (Or.inl ⟨by rfl, ?_⟩) (by assumption) ?_
  rotate_left
  first | (focus ((intro w hSw; (try dsimp only at hSw); go_simp); (try with_reducible rfl); done)) | fail
  try simp only [Act.put, List.getElem_toArray, List.getElem_cons_zero, List.getElem_cons_succ, List.setIfInBounds_toArray, List.set_cons_zero, List.set_cons_succ]
  refine wpAnyH_ready (rs := [18]) (by kernel_rfl) (by simp) ?_
  refine AllReadyH.cons rfl (fun K hK => ?_) AllReadyH.nil
  go_simp
  refine (CA.out _).mono ?_; rintro e w3 ⟨rfl, b3⟩
  go_wp2_with fail
  refine hK.out _ _ ?_ (fun hHeld => ?_)
  · (try dsimp only); exact C3.up hHeld hs2 b3
  clear hK K
  try simp only [Act.put, List.getElem_toArray, List.getElem_cons_zero, List.getElem_cons_succ, List.setIfInBounds_toArray, List.set_cons_zero, List.set_cons_succ]
  refine wpAnyH_take (i := 19) (v := ?_) rfl (by kernel_rfl) (by kernel_rfl) (by kernel_rfl) (fun _ _ _ h => h) (Or.inl ⟨by rfl, ?_⟩) (by assumption) ?_
  rotate_left
  first | (focus ((intro w hSw; (try dsimp only at hSw); go_simp); (try with_reducible rfl); done)) | fail
  try simp only [Act.put, List.getElem_toArray, List.getElem_cons_zero, List.getElem_cons_succ, List.setIfInBounds_toArray, List.set_cons_zero, List.set_cons_succ]
  refine wpAnyH_take (i := 20) (v := ?_) rfl (by kernel_rfl) (by kernel_rfl) (by kernel_rfl) (fun _ _ _ h => h) (Or.inl ⟨by rfl, ?_⟩) (by assumption) ?_
  rotate_left
  first | (focus ((intro w hSw; (try dsimp only at hSw); go_simp); (try with_reducible rfl); done)) | fail
  try simp only [Act.put, List.getElem_toArray, List.getElem_cons_zero, List.getElem_cons_succ, List.setIfInBounds_toArray, List.set_cons_zero, List.set_cons_succ]
  refine wpAnyH_done (by kernel_rfl) ?_ _
  go_wp2
  go_ret
  have hb2 : Below N w w2 := (B0.out.drew.trans (below_of_le b1 (show N ≤ W.heap.size by have := HS.out; omega))).trans (below_of_le b2 (by omega))
  exact ⟨rfl, hb2.trans (below_of_le b3 (by omega))⟩
theorem vctake_nil (x : Dt) (w : World) : Calls Try.prog 20 #[.pointer none, dtV x] w fun e w' => e = .returned (.bool false) ∧ Below w.heap.size w w' := by
  cases hr : rightD x
  · exact vctake_no x w none hr
  · by_cases hne : 1 = x.2
    · exact vctake_nil1 x w hr hne
    · exact vctake_off x w none [] (VecAt.nil w) hr (by simpa [mget] using hne)
end Go.Proofs.Ytailbppddnegoaa
