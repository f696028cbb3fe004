/- Layer 19 (clock): Tick, Wall, Last, Peek, by program and by the document. -/
import Derived.Test.YtjlmbdhjpjbneaaK1
import Derived.Deep.QuietTactic
import Derived.BigQuiet
namespace Go.Proofs.Ytjlmbdhjpjbneaa
open Go.RowKit
set_option linter.unusedVariables false
set_option maxRecDepth 100000

/-- A clock in memory, and by value. -/
def Ck (w : World) (g : Nat) (W a b c : Int) : Prop := Whole w g 122 #[.int .i64 W, .int .i64 a, .int .i64 b, .int .i64 c]
def ckV (W a b c : Int) : Value := .agg #[.int .i64 W, .int .i64 a, .int .i64 b, .int .i64 c]
def gp (g : Nat) : Value := .pointer (some ⟨g, 0, none⟩)
def tickW (W ms : Int) : Int := if 0 ≤ ms ∧ ms ≤ 4398046511104 - W then W + ms else W
def tickE (W ms : Int) : Int := if 0 ≤ ms ∧ ms ≤ 4398046511104 - W then 0 else 4
def wallB (W : Int) : Prop := 0 ≤ W ∧ W ≤ 4398046511104
theorem tick_any (W a b c ms : Int) (hW : wallB W) (hm : i64B ms) (w : World) (g : Nat) (h : Ck w g W a b c) :
    Calls Try.prog 31 #[gp g, .int .i64 ms] w fun e w' => e = .returned (.int .i64 (tickE W ms)) ∧ Ck w' g (tickW W ms) a b c ∧ Ch (fun k => k = g) w w' := by
  unfold gp
  unfold wallB at hW
  unfold i64B at hm
  have c0 : w.cell? ⟨g, 0, none⟩ = some (.int .i64 W) := by rw [Whole.cell h]; rfl
  have f0 := Whole.free h 0
  have e1 : IntKind.i64.wrap (4398046511104 - W) = 4398046511104 - W := IntWalk.i64_in _ (by omega)
  by_cases hc : 0 ≤ ms ∧ ms ≤ 4398046511104 - W
  · have e2 : IntKind.i64.wrap (W + ms) = W + ms := IntWalk.i64_in _ (by omega)
    have t1 : ¬ ms < 0 := by omega
    have t2 : ¬ 4398046511104 - W < ms := by omega
    unfold tickE tickW
    rw [if_pos hc, if_pos hc]
    have HF := Lib.hid (show Whole (w.setCell ⟨g, 0, none⟩ (.int .i64 (W + ms))) g 122 _ from h.set_ 0 (.int .i64 (W + ms)))
    clear hc hW hm h
    go_enter Try.func31, Try.ntmps31
    go_wp2
    go_ret
    exact ⟨rfl, HF.out, Ch.set_ w ⟨g, 0, none⟩ _⟩
  · unfold tickE tickW
    rw [if_neg hc, if_neg hc]
    have H := Lib.hid h
    by_cases t1 : ms < 0
    · clear hc hW hm h e1
      go_enter Try.func31, Try.ntmps31
      go_wp2
      go_ret
      exact ⟨rfl, H.out, Ch.refl _ _⟩
    · have t2 : 4398046511104 - W < ms := by omega
      clear hc hW hm h
      go_enter Try.func31, Try.ntmps31
      go_wp2
      go_ret
      exact ⟨rfl, H.out, Ch.refl _ _⟩
theorem rtick_any (W a b c ms : Int) (hW : wallB W) (hm : i64B ms) (w : World) :
    Calls Try.prog 88 #[ckV W a b c, .int .i64 ms] w fun e w' => e = .returned (.tuple #[ckV (tickW W ms) a b c, .int .i64 (tickE W ms)]) ∧ Below w.heap.size w w' := by
  unfold ckV
  unfold wallB at hW
  unfold i64B at hm
  have e1 : IntKind.i64.wrap (4398046511104 - W) = 4398046511104 - W := IntWalk.i64_in _ (by omega)
  by_cases hc : 0 ≤ ms ∧ ms ≤ 4398046511104 - W
  · have e2 : IntKind.i64.wrap (W + ms) = W + ms := IntWalk.i64_in _ (by omega)
    have t1 : ¬ ms < 0 := by omega
    have t2 : ¬ 4398046511104 - W < ms := by omega
    unfold tickE tickW
    rw [if_pos hc, if_pos hc]
    clear hc hW hm
    go_enter Try.func88, Try.ntmps88
    go_wp2
    refine bodyPost_ret (v := .tuple #[.agg #[.int .i64 (W + ms), .int .i64 a, .int .i64 b, .int .i64 c], .int .i64 0]) (by simp [results, Try.results88, go_sem]) rfl ⟨rfl, ?_⟩
    exact ((Below.refl _ _).alloc (Nat.le_refl _) _).alloc (by simp) _
  · unfold tickE tickW
    rw [if_neg hc, if_neg hc]
    by_cases t1 : ms < 0
    · clear hc hW hm e1
      go_enter Try.func88, Try.ntmps88
      go_wp2
      refine bodyPost_ret (v := .tuple #[.agg #[.int .i64 W, .int .i64 a, .int .i64 b, .int .i64 c], .int .i64 4]) (by simp [results, Try.results88, go_sem]) rfl ⟨rfl, ?_⟩
      exact ((Below.refl _ _).alloc (Nat.le_refl _) _).alloc (by simp) _
    · have t2 : 4398046511104 - W < ms := by omega
      clear hc hW hm
      go_enter Try.func88, Try.ntmps88
      go_wp2
      refine bodyPost_ret (v := .tuple #[.agg #[.int .i64 W, .int .i64 a, .int .i64 b, .int .i64 c], .int .i64 4]) (by simp [results, Try.results88, go_sem]) rfl ⟨rfl, ?_⟩
      exact ((Below.refl _ _).alloc (Nat.le_refl _) _).alloc (by simp) _
theorem wall_any (W a b c : Int) (w : World) (g : Nat) (h : Ck w g W a b c) :
    Calls Try.prog 37 #[gp g] w fun e w' => e = .returned (.int .i64 W) ∧ w = w' := by
  unfold gp
  have c0 : w.cell? ⟨g, 0, none⟩ = some (.int .i64 W) := by rw [Whole.cell h]; rfl
  clear h
  go_enter Try.func37, Try.ntmps37
  go_wp2
  go_ret
  exact ⟨rfl, rfl⟩
theorem last_any (W a b c : Int) (w : World) (g : Nat) (h : Ck w g W a b c) :
    Calls Try.prog 38 #[gp g] w fun e w' => e = .returned (stV a b c) ∧ Below w.heap.size w w' := by
  unfold gp stV
  have hg := h.lt
  have c1 : w.cell? ⟨g, 1, none⟩ = some (.int .i64 a) := by rw [Whole.cell h]; rfl
  have c2 : w.cell? ⟨g, 2, none⟩ = some (.int .i64 b) := by rw [Whole.cell h]; rfl
  have c3 : w.cell? ⟨g, 3, none⟩ = some (.int .i64 c) := by rw [Whole.cell h]; rfl
  clear h
  go_enter Try.func38, Try.ntmps38
  go_wp2
  refine bodyPost_ret (v := .agg #[.int .i64 a, .int .i64 b, .int .i64 c]) (by simp [results, Try.results38, go_sem]) rfl ⟨rfl, ?_⟩
  exact (Below.refl _ _).alloc (Nat.le_refl _) _
/-- The next stamp of a clock, and the error. -/
def pkV (W a b c : Int) : Int × Int × Int × Int := if a < W then (W, 0, c, 0) else if b = 65535 then (0, 0, 0, 7) else (a, b + 1, c, 0)
theorem pk_cases (W a b c : Int) : (a < W ∧ pkV W a b c = (W, 0, c, 0)) ∨ (¬ a < W ∧ b = 65535 ∧ pkV W a b c = (0, 0, 0, 7)) ∨ (¬ a < W ∧ b ≠ 65535 ∧ pkV W a b c = (a, b + 1, c, 0)) := by
  unfold pkV
  by_cases h : a < W
  · exact .inl ⟨h, by rw [if_pos h]⟩
  · by_cases h2 : b = 65535
    · exact .inr (.inl ⟨h, h2, by rw [if_neg h, if_pos h2]⟩)
    · exact .inr (.inr ⟨h, h2, by rw [if_neg h, if_neg h2]⟩)
theorem peek_any (W a b c : Int) (hb : 0 ≤ b ∧ b ≤ 65535) (w : World) (g : Nat) (h : Ck w g W a b c) :
    Calls Try.prog 77 #[gp g] w fun e w' => e = .returned (.tuple #[stV (pkV W a b c).1 (pkV W a b c).2.1 (pkV W a b c).2.2.1, .int .i64 (pkV W a b c).2.2.2]) ∧ Below w.heap.size w w' := by
  have hg := h.lt
  have c0 : w.cell? ⟨g, 0, none⟩ = some (.int .i64 W) := by rw [Whole.cell h]; rfl
  have c1 : w.cell? ⟨g, 1, none⟩ = some (.int .i64 a) := by rw [Whole.cell h]; rfl
  have c2 : w.cell? ⟨g, 2, none⟩ = some (.int .i64 b) := by rw [Whole.cell h]; rfl
  have c3 : w.cell? ⟨g, 3, none⟩ = some (.int .i64 c) := by rw [Whole.cell h]; rfl
  have e1 : IntKind.i64.wrap (b + 1) = b + 1 := IntWalk.i64_in _ (by omega)
  clear hb
  have hBx := Lib.hid (boxes_new w 43 #[.int .i64 0, .int .i64 0, .int .i64 0] #[.int .i64 a, .int .i64 b, .int .i64 c])
  obtain ⟨h1, hp⟩ | ⟨h1, h2, hp⟩ | ⟨h1, h2, hp⟩ := pk_cases W a b c
  all_goals
    rw [hp]
    clear hp
  all_goals unfold gp stV at *
  · go_enter Try.func77, Try.ntmps77
    go_wp2
    obtain ⟨hb, hs, r0, r1⟩ := hBx.out
    generalize ((w.alloc (.cells #[.int .i64 0, .int .i64 0, .int .i64 0] 43)).alloc (.cells #[.int .i64 a, .int .i64 b, .int .i64 c] 43)) = W2 at *
    have hk : Ck W2 g W a b c := h.below hb hg
    have d0 : W2.cell? ⟨g, 0, none⟩ = some (.int .i64 W) := by rw [Whole.cell hk]; rfl
    have s0 : W2.cell? ⟨w.heap.size + 1, 0, none⟩ = some (.int .i64 a) := by rw [r1.cell]; rfl
    have HB := Lib.hid hb
    have R0 := Lib.hid r0
    have R1 := Lib.hid r1
    have HK := Lib.hid hk
    clear c0 c1 c2 c3 h hBx hk r0 r1 hb
    go_quiet (fail)
    have hk := HK.out.drewN nq
    have r0 := R0.out.drewN nq
    have r1 := R1.out.drewN nq
    have hb : Below w.heap.size w (W2.drewN nq) := ⟨HB.out.os, HB.out.tape, HB.out.output, HB.out.size, HB.out.block⟩
    generalize W2.drewN nq = W3 at *
    have c0 : W3.cell? ⟨g, 0, none⟩ = some (.int .i64 W) := by rw [hk.cell]; rfl
    have t0 : W3.cell? ⟨w.heap.size + 1, 0, none⟩ = some (.int .i64 a) := by rw [r1.cell]; rfl
    have t1 : W3.cell? ⟨w.heap.size + 1, 1, none⟩ = some (.int .i64 b) := by rw [r1.cell]; rfl
    have t2 : W3.cell? ⟨w.heap.size + 1, 2, none⟩ = some (.int .i64 c) := by rw [r1.cell]; rfl
    have u0 : W3.cell? ⟨w.heap.size, 0, none⟩ = some (.int .i64 0) := by rw [r0.cell]; rfl
    have u1 : W3.cell? ⟨w.heap.size, 1, none⟩ = some (.int .i64 0) := by rw [r0.cell]; rfl
    have u2 : W3.cell? ⟨w.heap.size, 2, none⟩ = some (.int .i64 0) := by rw [r0.cell]; rfl
    have f0 := r0.free 0
    have f1 := r0.free 1
    have f2 := r0.free 2
    have k0 := r1.free 0
    have k1 := r1.free 1
    clear hk R0 R1 HK HB d0 s0
    go_wp2
    have hz := (((((r0.far (p := ⟨w.heap.size + 1, 0, none⟩) (by simp) (.int .i64 W)).far (p := ⟨w.heap.size + 1, 1, none⟩) (by simp) (.int .i64 0)).set_ 0 (.int .i64 W)).set_ 1 (.int .i64 0)).set_ 2 (.int .i64 c))
    have hB := (((((hb.setCell (p := ⟨w.heap.size + 1, 0, none⟩) (by simp) (.int .i64 W)).setCell (p := ⟨w.heap.size + 1, 1, none⟩) (by simp) (.int .i64 0)).setCell (p := ⟨w.heap.size, 0, none⟩) (by simp) (.int .i64 W)).setCell (p := ⟨w.heap.size, 1, none⟩) (by simp) (.int .i64 0)).setCell (p := ⟨w.heap.size, 2, none⟩) (by simp) (.int .i64 c))
    generalize (((((W3.setCell ⟨w.heap.size + 1, 0, none⟩ (.int .i64 W)).setCell ⟨w.heap.size + 1, 1, none⟩ (.int .i64 0)).setCell ⟨w.heap.size, 0, none⟩ (.int .i64 W)).setCell ⟨w.heap.size, 1, none⟩ (.int .i64 0)).setCell ⟨w.heap.size, 2, none⟩ (.int .i64 c)) = W4 at *
    have x0 : W4.cell? ⟨w.heap.size, 0, none⟩ = some (.int .i64 W) := by rw [hz.cell]; rfl
    have x1 : W4.cell? ⟨w.heap.size, 1, none⟩ = some (.int .i64 0) := by rw [hz.cell]; rfl
    have x2 : W4.cell? ⟨w.heap.size, 2, none⟩ = some (.int .i64 c) := by rw [hz.cell]; rfl
    exact bodyPost_ret (v := .tuple #[.agg #[.int .i64 W, .int .i64 0, .int .i64 c], .int .i64 0]) (by simp [results, Try.results77, go_sem, x0, x1, x2]) rfl ⟨rfl, hB⟩
  · subst h2
    go_enter Try.func77, Try.ntmps77
    go_wp2
    obtain ⟨hb, hs, r0, r1⟩ := hBx.out
    generalize ((w.alloc (.cells #[.int .i64 0, .int .i64 0, .int .i64 0] 43)).alloc (.cells #[.int .i64 a, .int .i64 65535, .int .i64 c] 43)) = W2 at *
    have hk : Ck W2 g W a 65535 c := h.below hb hg
    have d0 : W2.cell? ⟨g, 0, none⟩ = some (.int .i64 W) := by rw [Whole.cell hk]; rfl
    have s0 : W2.cell? ⟨w.heap.size + 1, 0, none⟩ = some (.int .i64 a) := by rw [r1.cell]; rfl
    have HB := Lib.hid hb
    have R0 := Lib.hid r0
    have R1 := Lib.hid r1
    have HK := Lib.hid hk
    clear c0 c1 c2 c3 h hBx hk r0 r1 hb
    go_quiet (fail)
    have hk := HK.out.drewN nq
    have r0 := R0.out.drewN nq
    have r1 := R1.out.drewN nq
    have hb : Below w.heap.size w (W2.drewN nq) := ⟨HB.out.os, HB.out.tape, HB.out.output, HB.out.size, HB.out.block⟩
    generalize W2.drewN nq = W3 at *
    have c0 : W3.cell? ⟨g, 0, none⟩ = some (.int .i64 W) := by rw [hk.cell]; rfl
    have t0 : W3.cell? ⟨w.heap.size + 1, 0, none⟩ = some (.int .i64 a) := by rw [r1.cell]; rfl
    have t1 : W3.cell? ⟨w.heap.size + 1, 1, none⟩ = some (.int .i64 65535) := by rw [r1.cell]; rfl
    have t2 : W3.cell? ⟨w.heap.size + 1, 2, none⟩ = some (.int .i64 c) := by rw [r1.cell]; rfl
    have u0 : W3.cell? ⟨w.heap.size, 0, none⟩ = some (.int .i64 0) := by rw [r0.cell]; rfl
    have u1 : W3.cell? ⟨w.heap.size, 1, none⟩ = some (.int .i64 0) := by rw [r0.cell]; rfl
    have u2 : W3.cell? ⟨w.heap.size, 2, none⟩ = some (.int .i64 0) := by rw [r0.cell]; rfl
    have f0 := r0.free 0
    have f1 := r0.free 1
    have f2 := r0.free 2
    have k0 := r1.free 0
    have k1 := r1.free 1
    clear hk R0 R1 HK HB d0 s0
    go_wp2
    have hz := (((r0.set_ 0 (.int .i64 0)).set_ 1 (.int .i64 0)).set_ 2 (.int .i64 0))
    have hB := (((hb.setCell (p := ⟨w.heap.size, 0, none⟩) (by simp) (.int .i64 0)).setCell (p := ⟨w.heap.size, 1, none⟩) (by simp) (.int .i64 0)).setCell (p := ⟨w.heap.size, 2, none⟩) (by simp) (.int .i64 0))
    generalize (((W3.setCell ⟨w.heap.size, 0, none⟩ (.int .i64 0)).setCell ⟨w.heap.size, 1, none⟩ (.int .i64 0)).setCell ⟨w.heap.size, 2, none⟩ (.int .i64 0)) = W4 at *
    have x0 : W4.cell? ⟨w.heap.size, 0, none⟩ = some (.int .i64 0) := by rw [hz.cell]; rfl
    have x1 : W4.cell? ⟨w.heap.size, 1, none⟩ = some (.int .i64 0) := by rw [hz.cell]; rfl
    have x2 : W4.cell? ⟨w.heap.size, 2, none⟩ = some (.int .i64 0) := by rw [hz.cell]; rfl
    exact bodyPost_ret (v := .tuple #[.agg #[.int .i64 0, .int .i64 0, .int .i64 0], .int .i64 7]) (by simp [results, Try.results77, go_sem, x0, x1, x2]) rfl ⟨rfl, hB⟩
  · have tb : (b == 65535) = false := by simp [h2]
    clear h2
    go_enter Try.func77, Try.ntmps77
    go_wp2
    obtain ⟨hb, hs, r0, r1⟩ := hBx.out
    generalize ((w.alloc (.cells #[.int .i64 0, .int .i64 0, .int .i64 0] 43)).alloc (.cells #[.int .i64 a, .int .i64 b, .int .i64 c] 43)) = W2 at *
    have hk : Ck W2 g W a b c := h.below hb hg
    have d0 : W2.cell? ⟨g, 0, none⟩ = some (.int .i64 W) := by rw [Whole.cell hk]; rfl
    have s0 : W2.cell? ⟨w.heap.size + 1, 0, none⟩ = some (.int .i64 a) := by rw [r1.cell]; rfl
    have HB := Lib.hid hb
    have R0 := Lib.hid r0
    have R1 := Lib.hid r1
    have HK := Lib.hid hk
    clear c0 c1 c2 c3 h hBx hk r0 r1 hb
    go_quiet (fail)
    have hk := HK.out.drewN nq
    have r0 := R0.out.drewN nq
    have r1 := R1.out.drewN nq
    have hb : Below w.heap.size w (W2.drewN nq) := ⟨HB.out.os, HB.out.tape, HB.out.output, HB.out.size, HB.out.block⟩
    generalize W2.drewN nq = W3 at *
    have c0 : W3.cell? ⟨g, 0, none⟩ = some (.int .i64 W) := by rw [hk.cell]; rfl
    have t0 : W3.cell? ⟨w.heap.size + 1, 0, none⟩ = some (.int .i64 a) := by rw [r1.cell]; rfl
    have t1 : W3.cell? ⟨w.heap.size + 1, 1, none⟩ = some (.int .i64 b) := by rw [r1.cell]; rfl
    have t2 : W3.cell? ⟨w.heap.size + 1, 2, none⟩ = some (.int .i64 c) := by rw [r1.cell]; rfl
    have u0 : W3.cell? ⟨w.heap.size, 0, none⟩ = some (.int .i64 0) := by rw [r0.cell]; rfl
    have u1 : W3.cell? ⟨w.heap.size, 1, none⟩ = some (.int .i64 0) := by rw [r0.cell]; rfl
    have u2 : W3.cell? ⟨w.heap.size, 2, none⟩ = some (.int .i64 0) := by rw [r0.cell]; rfl
    have f0 := r0.free 0
    have f1 := r0.free 1
    have f2 := r0.free 2
    have k0 := r1.free 0
    have k1 := r1.free 1
    clear hk R0 R1 HK HB d0 s0
    go_wp2
    have hz := ((((r0.far (p := ⟨w.heap.size + 1, 1, none⟩) (by simp) (.int .i64 (b + 1))).set_ 0 (.int .i64 a)).set_ 1 (.int .i64 (b + 1))).set_ 2 (.int .i64 c))
    have hB := ((((hb.setCell (p := ⟨w.heap.size + 1, 1, none⟩) (by simp) (.int .i64 (b + 1))).setCell (p := ⟨w.heap.size, 0, none⟩) (by simp) (.int .i64 a)).setCell (p := ⟨w.heap.size, 1, none⟩) (by simp) (.int .i64 (b + 1))).setCell (p := ⟨w.heap.size, 2, none⟩) (by simp) (.int .i64 c))
    generalize ((((W3.setCell ⟨w.heap.size + 1, 1, none⟩ (.int .i64 (b + 1))).setCell ⟨w.heap.size, 0, none⟩ (.int .i64 a)).setCell ⟨w.heap.size, 1, none⟩ (.int .i64 (b + 1))).setCell ⟨w.heap.size, 2, none⟩ (.int .i64 c)) = W4 at *
    have x0 : W4.cell? ⟨w.heap.size, 0, none⟩ = some (.int .i64 a) := by rw [hz.cell]; rfl
    have x1 : W4.cell? ⟨w.heap.size, 1, none⟩ = some (.int .i64 (b + 1)) := by rw [hz.cell]; rfl
    have x2 : W4.cell? ⟨w.heap.size, 2, none⟩ = some (.int .i64 c) := by rw [hz.cell]; rfl
    exact bodyPost_ret (v := .tuple #[.agg #[.int .i64 a, .int .i64 (b + 1), .int .i64 c], .int .i64 0]) (by simp [results, Try.results77, go_sem, x0, x1, x2]) rfl ⟨rfl, hB⟩
theorem rpeek_any (W a b c : Int) (hb : 0 ≤ b ∧ b ≤ 65535) (w : World) :
    Calls Try.prog 92 #[ckV W a b c] w fun e w' => e = .returned (.tuple #[stV (pkV W a b c).1 (pkV W a b c).2.1 (pkV W a b c).2.2.1, .int .i64 (pkV W a b c).2.2.2]) ∧ Below w.heap.size w w' := by
  have e1 : IntKind.i64.wrap (b + 1) = b + 1 := IntWalk.i64_in _ (by omega)
  obtain ⟨h1, hp⟩ | ⟨h1, h2, hp⟩ | ⟨h1, h2, hp⟩ := pk_cases W a b c
  all_goals
    rw [hp]
    clear hp
  all_goals unfold ckV stV
  · go_enter Try.func92, Try.ntmps92
    go_wp2
    refine bodyPost_ret (v := .tuple #[.agg #[.int .i64 W, .int .i64 0, .int .i64 c], .int .i64 0]) (by simp [results, Try.results92, go_sem]) rfl ⟨rfl, ?_⟩
    exact ((Below.refl _ _).alloc (Nat.le_refl _) _).alloc (by simp) _
  · subst h2
    go_enter Try.func92, Try.ntmps92
    go_wp2
    refine bodyPost_ret (v := .tuple #[.agg #[.int .i64 0, .int .i64 0, .int .i64 0], .int .i64 7]) (by simp [results, Try.results92, go_sem]) rfl ⟨rfl, ?_⟩
    exact ((Below.refl _ _).alloc (Nat.le_refl _) _).alloc (by simp) _
  · have t2 : ¬ 65535 ≤ b := by omega
    clear h2 hb
    go_enter Try.func92, Try.ntmps92
    go_wp2
    refine bodyPost_ret (v := .tuple #[.agg #[.int .i64 a, .int .i64 (b + 1), .int .i64 c], .int .i64 0]) (by simp [results, Try.results92, go_sem]) rfl ⟨rfl, ?_⟩
    exact ((Below.refl _ _).alloc (Nat.le_refl _) _).alloc (by simp) _
/-- clock.New. -/
theorem cnew_no (d : Int) (hd : inB d 63 = false) (w : World) : Calls Try.prog 30 #[.int .i64 d] w fun e w' => e = .returned (.tuple #[.pointer none, .int .i64 4]) ∧ Below w.heap.size w w' := by
  have C1 := Lib.hid (fun w => cright_any 0 0 d w)
  have hs : stB 0 0 d = false := by unfold stB; rw [hd]; simp
  rw [hs] at C1
  unfold stV at C1
  have B0 := Lib.hid ((Below.refl w.heap.size w).alloc (Nat.le_refl _) (.cells #[.int .i64 0, .int .i64 0, .int .i64 0, .int .i64 d] 122))
  go_enter Try.func30, Try.ntmps30
  go_wp2_with fail
  refine (C1.out _).mono ?_; rintro e w1 ⟨rfl, b1⟩
  go_wp2
  go_ret2
  exact ⟨rfl, below_step B0.out b1⟩
theorem cnew_yes (d : Int) (hd : inB d 63 = true) (w : World) : Calls Try.prog 30 #[.int .i64 d] w fun e w' => e = .returned (.tuple #[gp w.heap.size, .int .i64 0]) ∧ Ck w' w.heap.size 0 0 0 d ∧ Below w.heap.size w w' := by
  have C1 := Lib.hid (fun w => cright_any 0 0 d w)
  have hs : stB 0 0 d = true := by unfold stB; rw [hd]; simp [inB]
  rw [hs] at C1
  unfold stV at C1
  unfold gp
  have B0 := Lib.hid ((Below.refl w.heap.size w).alloc (Nat.le_refl _) (.cells #[.int .i64 0, .int .i64 0, .int .i64 0, .int .i64 d] 122))
  have K0 := Lib.hid (Whole.new w 122 #[.int .i64 0, .int .i64 0, .int .i64 0, .int .i64 d])
  go_enter Try.func30, Try.ntmps30
  go_wp2_with fail
  refine (C1.out _).mono ?_; rintro e w1 ⟨rfl, b1⟩
  go_wp2
  go_ret2
  exact ⟨rfl, K0.out.below b1 K0.out.lt, below_step B0.out b1⟩
end Go.Proofs.Ytjlmbdhjpjbneaa
