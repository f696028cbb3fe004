/- Layer 19 (clock): Restore, Hear, Next, by the document. -/
import Derived.Test.YtjlmbdhjpjbneaaK4
namespace Go.Proofs.Ytjlmbdhjpjbneaa
open Go.RowKit
set_option linter.unusedVariables false
set_option maxRecDepth 100000

/-- Three boxes, one behind the other. -/
def Box3 (n : Nat) (w W : World) (t t' t'' : TypeId) (xs ys zs : Array Value) : Prop := Below n w W ∧ n + 3 ≤ W.heap.size ∧ Whole W n t xs ∧ Whole W (n + 1) t' ys ∧ Whole W (n + 2) t'' zs
theorem box3_new (w : World) (t t' t'' : TypeId) (xs ys zs : Array Value) : Box3 w.heap.size w (((w.alloc (.cells xs t)).alloc (.cells ys t')).alloc (.cells zs t'')) t t' t'' xs ys zs := by
  refine ⟨(((Below.refl _ _).alloc (Nat.le_refl _) _).alloc (by simp) _).alloc (by simp; omega) _, by simp, ((Whole.new w t xs).alloc _).alloc _, ?_, ?_⟩
  · have := (Whole.new (w.alloc (.cells xs t)) t' ys).alloc (.cells zs t'')
    simpa using this
  · have := Whole.new ((w.alloc (.cells xs t)).alloc (.cells ys t')) t'' zs
    simpa using this
theorem Box3.step {n : Nat} {w W W' : World} {t t' t'' : TypeId} {xs ys zs : Array Value} (h : Box3 n w W t t' t'' xs ys zs) (b : Below W.heap.size W W') : Box3 n w W' t t' t'' xs ys zs := by
  obtain ⟨h0, h1, h2, h3, h4⟩ := h
  have := b.size
  exact ⟨h0.trans (below_of_le b (by omega)), by omega, h2.below b h2.lt, h3.below b h3.lt, h4.below b h4.lt⟩
theorem rrestore_any (W a b c a' b' c' : Int) (w : World) :
    Calls Try.prog 91 #[ckV W a b c, stV a' b' c'] w fun e w' => e = .returned (.tuple #[ckV W (rsA a b a' b' c') (rsC a b a' b' c') c, .int .i64 (rsE a' b' c')]) ∧ Below w.heap.size w w' := by
  have C1 := Lib.hid (fun w => rcright_any a' b' c' w)
  have hl := hlB_iff a b a' b'
  unfold rsE rsA rsC hlA hlC
  generalize hlB a b a' b' = p at *
  generalize stB a' b' c' = q at *
  unfold ckV stV at *
  have hX := Lib.hid (box3_new w 53 43 53 #[.int .i64 W, .int .i64 a, .int .i64 b, .int .i64 c] #[.int .i64 a', .int .i64 b', .int .i64 c'] #[.int .i64 0, .int .i64 0, .int .i64 0, .int .i64 0])
  cases q
  · simp only [Bool.false_eq_true, if_false]
    clear hl
    go_enter Try.func91, Try.ntmps91
    go_wp2_with fail
    generalize hW0 : (((w.alloc (.cells #[.int .i64 W, .int .i64 a, .int .i64 b, .int .i64 c] 53)).alloc (.cells #[.int .i64 a', .int .i64 b', .int .i64 c'] 43)).alloc (.cells #[.int .i64 0, .int .i64 0, .int .i64 0, .int .i64 0] 53)) = W0 at *
    generalize hn : w.heap.size = n at *
    clear hW0
    go_wp2_with fail
    refine (C1.out _).mono ?_; rintro e w1 ⟨rfl, b1⟩
    obtain ⟨hb, hs, k, s, z⟩ := (hX.out.step b1)
    have k0 : w1.cell? ⟨n, 0, none⟩ = some (.int .i64 W) := by rw [k.cell]; rfl
    have k1 : w1.cell? ⟨n, 1, none⟩ = some (.int .i64 a) := by rw [k.cell]; rfl
    have k2 : w1.cell? ⟨n, 2, none⟩ = some (.int .i64 b) := by rw [k.cell]; rfl
    have k3 : w1.cell? ⟨n, 3, none⟩ = some (.int .i64 c) := by rw [k.cell]; rfl
    have s0 : w1.cell? ⟨n + 1, 0, none⟩ = some (.int .i64 a') := by rw [s.cell]; rfl
    have s1 : w1.cell? ⟨n + 1, 1, none⟩ = some (.int .i64 b') := by rw [s.cell]; rfl
    have s2 : w1.cell? ⟨n + 1, 2, none⟩ = some (.int .i64 c') := by rw [s.cell]; rfl
    have z0 : w1.cell? ⟨n + 2, 0, none⟩ = some (.int .i64 0) := by rw [z.cell]; rfl
    have z1 : w1.cell? ⟨n + 2, 1, none⟩ = some (.int .i64 0) := by rw [z.cell]; rfl
    have z2 : w1.cell? ⟨n + 2, 2, none⟩ = some (.int .i64 0) := by rw [z.cell]; rfl
    have z3 : w1.cell? ⟨n + 2, 3, none⟩ = some (.int .i64 0) := by rw [z.cell]; rfl
    have f0 := k.free 0
    have f1 := k.free 1
    have f2 := k.free 2
    have f3 := k.free 3
    have j0 := z.free 0
    have j1 := z.free 1
    have j2 := z.free 2
    have j3 := z.free 3
    have KK := Lib.hid k
    have ZZ := Lib.hid z
    have BB := Lib.hid hb
    clear k s z hb
    clear b1
    go_wp2
    have k := KK.out
    have z := ZZ.out
    have hb := BB.out
    have hz := ((((z.set_ 0 (.int .i64 W)).set_ 1 (.int .i64 a)).set_ 2 (.int .i64 b)).set_ 3 (.int .i64 c))
    have hB := ((((hb.setCell (p := ⟨n + 2, 0, none⟩) (by simp only; omega) (.int .i64 W)).setCell (p := ⟨n + 2, 1, none⟩) (by simp only; omega) (.int .i64 a)).setCell (p := ⟨n + 2, 2, none⟩) (by simp only; omega) (.int .i64 b)).setCell (p := ⟨n + 2, 3, none⟩) (by simp only; omega) (.int .i64 c))
    generalize ((((w1.setCell ⟨n + 2, 0, none⟩ (.int .i64 W)).setCell ⟨n + 2, 1, none⟩ (.int .i64 a)).setCell ⟨n + 2, 2, none⟩ (.int .i64 b)).setCell ⟨n + 2, 3, none⟩ (.int .i64 c)) = W9 at *
    have x0 : W9.cell? ⟨n + 2, 0, none⟩ = some (.int .i64 W) := by rw [hz.cell]; rfl
    have x1 : W9.cell? ⟨n + 2, 1, none⟩ = some (.int .i64 a) := by rw [hz.cell]; rfl
    have x2 : W9.cell? ⟨n + 2, 2, none⟩ = some (.int .i64 b) := by rw [hz.cell]; rfl
    have x3 : W9.cell? ⟨n + 2, 3, none⟩ = some (.int .i64 c) := by rw [hz.cell]; rfl
    exact bodyPost_ret (v := .tuple #[.agg #[.int .i64 W, .int .i64 a, .int .i64 b, .int .i64 c], .int .i64 4]) (by simp [results, Try.results91, go_sem, x0, x1, x2, x3]) rfl ⟨rfl, hn ▸ hB⟩
  · by_cases h1 : a < a'
    · have hp : p = true := hl.2 (.inl h1)
      subst hp
      simp only [if_true]
      clear hl
      go_enter Try.func91, Try.ntmps91
      go_wp2_with fail
      generalize hW0 : (((w.alloc (.cells #[.int .i64 W, .int .i64 a, .int .i64 b, .int .i64 c] 53)).alloc (.cells #[.int .i64 a', .int .i64 b', .int .i64 c'] 43)).alloc (.cells #[.int .i64 0, .int .i64 0, .int .i64 0, .int .i64 0] 53)) = W0 at *
      generalize hn : w.heap.size = n at *
      clear hW0
      go_wp2_with fail
      refine (C1.out _).mono ?_; rintro e w1 ⟨rfl, b1⟩
      obtain ⟨hb, hs, k, s, z⟩ := (hX.out.step b1)
      have k0 : w1.cell? ⟨n, 0, none⟩ = some (.int .i64 W) := by rw [k.cell]; rfl
      have k1 : w1.cell? ⟨n, 1, none⟩ = some (.int .i64 a) := by rw [k.cell]; rfl
      have k2 : w1.cell? ⟨n, 2, none⟩ = some (.int .i64 b) := by rw [k.cell]; rfl
      have k3 : w1.cell? ⟨n, 3, none⟩ = some (.int .i64 c) := by rw [k.cell]; rfl
      have s0 : w1.cell? ⟨n + 1, 0, none⟩ = some (.int .i64 a') := by rw [s.cell]; rfl
      have s1 : w1.cell? ⟨n + 1, 1, none⟩ = some (.int .i64 b') := by rw [s.cell]; rfl
      have s2 : w1.cell? ⟨n + 1, 2, none⟩ = some (.int .i64 c') := by rw [s.cell]; rfl
      have z0 : w1.cell? ⟨n + 2, 0, none⟩ = some (.int .i64 0) := by rw [z.cell]; rfl
      have z1 : w1.cell? ⟨n + 2, 1, none⟩ = some (.int .i64 0) := by rw [z.cell]; rfl
      have z2 : w1.cell? ⟨n + 2, 2, none⟩ = some (.int .i64 0) := by rw [z.cell]; rfl
      have z3 : w1.cell? ⟨n + 2, 3, none⟩ = some (.int .i64 0) := by rw [z.cell]; rfl
      have f0 := k.free 0
      have f1 := k.free 1
      have f2 := k.free 2
      have f3 := k.free 3
      have j0 := z.free 0
      have j1 := z.free 1
      have j2 := z.free 2
      have j3 := z.free 3
      have KK := Lib.hid k
      have ZZ := Lib.hid z
      have BB := Lib.hid hb
      clear k s z hb
      clear b1
      go_wp2
      have k := KK.out
      have z := ZZ.out
      have hb := BB.out
      have hz := ((((((z.far (p := ⟨n, 1, none⟩) (by show n + 2 ≠ n; omega) (.int .i64 a')).far (p := ⟨n, 2, none⟩) (by show n + 2 ≠ n; omega) (.int .i64 b')).set_ 0 (.int .i64 W)).set_ 1 (.int .i64 a')).set_ 2 (.int .i64 b')).set_ 3 (.int .i64 c))
      have hB := ((((((hb.setCell (p := ⟨n, 1, none⟩) (by simp only; omega) (.int .i64 a')).setCell (p := ⟨n, 2, none⟩) (by simp only; omega) (.int .i64 b')).setCell (p := ⟨n + 2, 0, none⟩) (by simp only; omega) (.int .i64 W)).setCell (p := ⟨n + 2, 1, none⟩) (by simp only; omega) (.int .i64 a')).setCell (p := ⟨n + 2, 2, none⟩) (by simp only; omega) (.int .i64 b')).setCell (p := ⟨n + 2, 3, none⟩) (by simp only; omega) (.int .i64 c))
      generalize ((((((w1.setCell ⟨n, 1, none⟩ (.int .i64 a')).setCell ⟨n, 2, none⟩ (.int .i64 b')).setCell ⟨n + 2, 0, none⟩ (.int .i64 W)).setCell ⟨n + 2, 1, none⟩ (.int .i64 a')).setCell ⟨n + 2, 2, none⟩ (.int .i64 b')).setCell ⟨n + 2, 3, none⟩ (.int .i64 c)) = W9 at *
      have x0 : W9.cell? ⟨n + 2, 0, none⟩ = some (.int .i64 W) := by rw [hz.cell]; rfl
      have x1 : W9.cell? ⟨n + 2, 1, none⟩ = some (.int .i64 a') := by rw [hz.cell]; rfl
      have x2 : W9.cell? ⟨n + 2, 2, none⟩ = some (.int .i64 b') := by rw [hz.cell]; rfl
      have x3 : W9.cell? ⟨n + 2, 3, none⟩ = some (.int .i64 c) := by rw [hz.cell]; rfl
      exact bodyPost_ret (v := .tuple #[.agg #[.int .i64 W, .int .i64 a', .int .i64 b', .int .i64 c], .int .i64 0]) (by simp [results, Try.results91, go_sem, x0, x1, x2, x3]) rfl ⟨rfl, hn ▸ hB⟩
    · by_cases h2 : a' = a
      · subst h2
        have t1 : (a' == a') = true := by simp
        by_cases h3 : b < b'
        · have hp : p = true := hl.2 (.inr ⟨rfl, h3⟩)
          subst hp
          simp only [if_true]
          clear hl
          go_enter Try.func91, Try.ntmps91
          go_wp2_with fail
          generalize hW0 : (((w.alloc (.cells #[.int .i64 W, .int .i64 a', .int .i64 b, .int .i64 c] 53)).alloc (.cells #[.int .i64 a', .int .i64 b', .int .i64 c'] 43)).alloc (.cells #[.int .i64 0, .int .i64 0, .int .i64 0, .int .i64 0] 53)) = W0 at *
          generalize hn : w.heap.size = n at *
          clear hW0
          go_wp2_with fail
          refine (C1.out _).mono ?_; rintro e w1 ⟨rfl, b1⟩
          obtain ⟨hb, hs, k, s, z⟩ := (hX.out.step b1)
          have k0 : w1.cell? ⟨n, 0, none⟩ = some (.int .i64 W) := by rw [k.cell]; rfl
          have k1 : w1.cell? ⟨n, 1, none⟩ = some (.int .i64 a') := by rw [k.cell]; rfl
          have k2 : w1.cell? ⟨n, 2, none⟩ = some (.int .i64 b) := by rw [k.cell]; rfl
          have k3 : w1.cell? ⟨n, 3, none⟩ = some (.int .i64 c) := by rw [k.cell]; rfl
          have s0 : w1.cell? ⟨n + 1, 0, none⟩ = some (.int .i64 a') := by rw [s.cell]; rfl
          have s1 : w1.cell? ⟨n + 1, 1, none⟩ = some (.int .i64 b') := by rw [s.cell]; rfl
          have s2 : w1.cell? ⟨n + 1, 2, none⟩ = some (.int .i64 c') := by rw [s.cell]; rfl
          have z0 : w1.cell? ⟨n + 2, 0, none⟩ = some (.int .i64 0) := by rw [z.cell]; rfl
          have z1 : w1.cell? ⟨n + 2, 1, none⟩ = some (.int .i64 0) := by rw [z.cell]; rfl
          have z2 : w1.cell? ⟨n + 2, 2, none⟩ = some (.int .i64 0) := by rw [z.cell]; rfl
          have z3 : w1.cell? ⟨n + 2, 3, none⟩ = some (.int .i64 0) := by rw [z.cell]; rfl
          have f0 := k.free 0
          have f1 := k.free 1
          have f2 := k.free 2
          have f3 := k.free 3
          have j0 := z.free 0
          have j1 := z.free 1
          have j2 := z.free 2
          have j3 := z.free 3
          have KK := Lib.hid k
          have ZZ := Lib.hid z
          have BB := Lib.hid hb
          clear k s z hb
          clear b1
          go_wp2
          have k := KK.out
          have z := ZZ.out
          have hb := BB.out
          have hz := ((((((z.far (p := ⟨n, 1, none⟩) (by show n + 2 ≠ n; omega) (.int .i64 a')).far (p := ⟨n, 2, none⟩) (by show n + 2 ≠ n; omega) (.int .i64 b')).set_ 0 (.int .i64 W)).set_ 1 (.int .i64 a')).set_ 2 (.int .i64 b')).set_ 3 (.int .i64 c))
          have hB := ((((((hb.setCell (p := ⟨n, 1, none⟩) (by simp only; omega) (.int .i64 a')).setCell (p := ⟨n, 2, none⟩) (by simp only; omega) (.int .i64 b')).setCell (p := ⟨n + 2, 0, none⟩) (by simp only; omega) (.int .i64 W)).setCell (p := ⟨n + 2, 1, none⟩) (by simp only; omega) (.int .i64 a')).setCell (p := ⟨n + 2, 2, none⟩) (by simp only; omega) (.int .i64 b')).setCell (p := ⟨n + 2, 3, none⟩) (by simp only; omega) (.int .i64 c))
          generalize ((((((w1.setCell ⟨n, 1, none⟩ (.int .i64 a')).setCell ⟨n, 2, none⟩ (.int .i64 b')).setCell ⟨n + 2, 0, none⟩ (.int .i64 W)).setCell ⟨n + 2, 1, none⟩ (.int .i64 a')).setCell ⟨n + 2, 2, none⟩ (.int .i64 b')).setCell ⟨n + 2, 3, none⟩ (.int .i64 c)) = W9 at *
          have x0 : W9.cell? ⟨n + 2, 0, none⟩ = some (.int .i64 W) := by rw [hz.cell]; rfl
          have x1 : W9.cell? ⟨n + 2, 1, none⟩ = some (.int .i64 a') := by rw [hz.cell]; rfl
          have x2 : W9.cell? ⟨n + 2, 2, none⟩ = some (.int .i64 b') := by rw [hz.cell]; rfl
          have x3 : W9.cell? ⟨n + 2, 3, none⟩ = some (.int .i64 c) := by rw [hz.cell]; rfl
          exact bodyPost_ret (v := .tuple #[.agg #[.int .i64 W, .int .i64 a', .int .i64 b', .int .i64 c], .int .i64 0]) (by simp [results, Try.results91, go_sem, x0, x1, x2, x3]) rfl ⟨rfl, hn ▸ hB⟩
        · have hp : p = false := by cases p; rfl; exact absurd (hl.1 rfl) (by omega)
          subst hp
          simp only [Bool.false_eq_true, if_false, if_true]
          clear hl
          go_enter Try.func91, Try.ntmps91
          go_wp2_with fail
          generalize hW0 : (((w.alloc (.cells #[.int .i64 W, .int .i64 a', .int .i64 b, .int .i64 c] 53)).alloc (.cells #[.int .i64 a', .int .i64 b', .int .i64 c'] 43)).alloc (.cells #[.int .i64 0, .int .i64 0, .int .i64 0, .int .i64 0] 53)) = W0 at *
          generalize hn : w.heap.size = n at *
          clear hW0
          go_wp2_with fail
          refine (C1.out _).mono ?_; rintro e w1 ⟨rfl, b1⟩
          obtain ⟨hb, hs, k, s, z⟩ := (hX.out.step b1)
          have k0 : w1.cell? ⟨n, 0, none⟩ = some (.int .i64 W) := by rw [k.cell]; rfl
          have k1 : w1.cell? ⟨n, 1, none⟩ = some (.int .i64 a') := by rw [k.cell]; rfl
          have k2 : w1.cell? ⟨n, 2, none⟩ = some (.int .i64 b) := by rw [k.cell]; rfl
          have k3 : w1.cell? ⟨n, 3, none⟩ = some (.int .i64 c) := by rw [k.cell]; rfl
          have s0 : w1.cell? ⟨n + 1, 0, none⟩ = some (.int .i64 a') := by rw [s.cell]; rfl
          have s1 : w1.cell? ⟨n + 1, 1, none⟩ = some (.int .i64 b') := by rw [s.cell]; rfl
          have s2 : w1.cell? ⟨n + 1, 2, none⟩ = some (.int .i64 c') := by rw [s.cell]; rfl
          have z0 : w1.cell? ⟨n + 2, 0, none⟩ = some (.int .i64 0) := by rw [z.cell]; rfl
          have z1 : w1.cell? ⟨n + 2, 1, none⟩ = some (.int .i64 0) := by rw [z.cell]; rfl
          have z2 : w1.cell? ⟨n + 2, 2, none⟩ = some (.int .i64 0) := by rw [z.cell]; rfl
          have z3 : w1.cell? ⟨n + 2, 3, none⟩ = some (.int .i64 0) := by rw [z.cell]; rfl
          have f0 := k.free 0
          have f1 := k.free 1
          have f2 := k.free 2
          have f3 := k.free 3
          have j0 := z.free 0
          have j1 := z.free 1
          have j2 := z.free 2
          have j3 := z.free 3
          have KK := Lib.hid k
          have ZZ := Lib.hid z
          have BB := Lib.hid hb
          clear k s z hb
          clear b1
          go_wp2
          have k := KK.out
          have z := ZZ.out
          have hb := BB.out
          have hz := ((((z.set_ 0 (.int .i64 W)).set_ 1 (.int .i64 a')).set_ 2 (.int .i64 b)).set_ 3 (.int .i64 c))
          have hB := ((((hb.setCell (p := ⟨n + 2, 0, none⟩) (by simp only; omega) (.int .i64 W)).setCell (p := ⟨n + 2, 1, none⟩) (by simp only; omega) (.int .i64 a')).setCell (p := ⟨n + 2, 2, none⟩) (by simp only; omega) (.int .i64 b)).setCell (p := ⟨n + 2, 3, none⟩) (by simp only; omega) (.int .i64 c))
          generalize ((((w1.setCell ⟨n + 2, 0, none⟩ (.int .i64 W)).setCell ⟨n + 2, 1, none⟩ (.int .i64 a')).setCell ⟨n + 2, 2, none⟩ (.int .i64 b)).setCell ⟨n + 2, 3, none⟩ (.int .i64 c)) = W9 at *
          have x0 : W9.cell? ⟨n + 2, 0, none⟩ = some (.int .i64 W) := by rw [hz.cell]; rfl
          have x1 : W9.cell? ⟨n + 2, 1, none⟩ = some (.int .i64 a') := by rw [hz.cell]; rfl
          have x2 : W9.cell? ⟨n + 2, 2, none⟩ = some (.int .i64 b) := by rw [hz.cell]; rfl
          have x3 : W9.cell? ⟨n + 2, 3, none⟩ = some (.int .i64 c) := by rw [hz.cell]; rfl
          exact bodyPost_ret (v := .tuple #[.agg #[.int .i64 W, .int .i64 a', .int .i64 b, .int .i64 c], .int .i64 0]) (by simp [results, Try.results91, go_sem, x0, x1, x2, x3]) rfl ⟨rfl, hn ▸ hB⟩
      · have hp : p = false := by cases p; rfl; exact absurd (hl.1 rfl) (by omega)
        have t1 : (a' == a) = false := by simp; exact h2
        subst hp
        simp only [Bool.false_eq_true, if_false, if_true]
        clear hl h2
        go_enter Try.func91, Try.ntmps91
        go_wp2_with fail
        generalize hW0 : (((w.alloc (.cells #[.int .i64 W, .int .i64 a, .int .i64 b, .int .i64 c] 53)).alloc (.cells #[.int .i64 a', .int .i64 b', .int .i64 c'] 43)).alloc (.cells #[.int .i64 0, .int .i64 0, .int .i64 0, .int .i64 0] 53)) = W0 at *
        generalize hn : w.heap.size = n at *
        clear hW0
        go_wp2_with fail
        refine (C1.out _).mono ?_; rintro e w1 ⟨rfl, b1⟩
        obtain ⟨hb, hs, k, s, z⟩ := (hX.out.step b1)
        have k0 : w1.cell? ⟨n, 0, none⟩ = some (.int .i64 W) := by rw [k.cell]; rfl
        have k1 : w1.cell? ⟨n, 1, none⟩ = some (.int .i64 a) := by rw [k.cell]; rfl
        have k2 : w1.cell? ⟨n, 2, none⟩ = some (.int .i64 b) := by rw [k.cell]; rfl
        have k3 : w1.cell? ⟨n, 3, none⟩ = some (.int .i64 c) := by rw [k.cell]; rfl
        have s0 : w1.cell? ⟨n + 1, 0, none⟩ = some (.int .i64 a') := by rw [s.cell]; rfl
        have s1 : w1.cell? ⟨n + 1, 1, none⟩ = some (.int .i64 b') := by rw [s.cell]; rfl
        have s2 : w1.cell? ⟨n + 1, 2, none⟩ = some (.int .i64 c') := by rw [s.cell]; rfl
        have z0 : w1.cell? ⟨n + 2, 0, none⟩ = some (.int .i64 0) := by rw [z.cell]; rfl
        have z1 : w1.cell? ⟨n + 2, 1, none⟩ = some (.int .i64 0) := by rw [z.cell]; rfl
        have z2 : w1.cell? ⟨n + 2, 2, none⟩ = some (.int .i64 0) := by rw [z.cell]; rfl
        have z3 : w1.cell? ⟨n + 2, 3, none⟩ = some (.int .i64 0) := by rw [z.cell]; rfl
        have f0 := k.free 0
        have f1 := k.free 1
        have f2 := k.free 2
        have f3 := k.free 3
        have j0 := z.free 0
        have j1 := z.free 1
        have j2 := z.free 2
        have j3 := z.free 3
        have KK := Lib.hid k
        have ZZ := Lib.hid z
        have BB := Lib.hid hb
        clear k s z hb
        clear b1
        go_wp2
        have k := KK.out
        have z := ZZ.out
        have hb := BB.out
        have hz := ((((z.set_ 0 (.int .i64 W)).set_ 1 (.int .i64 a)).set_ 2 (.int .i64 b)).set_ 3 (.int .i64 c))
        have hB := ((((hb.setCell (p := ⟨n + 2, 0, none⟩) (by simp only; omega) (.int .i64 W)).setCell (p := ⟨n + 2, 1, none⟩) (by simp only; omega) (.int .i64 a)).setCell (p := ⟨n + 2, 2, none⟩) (by simp only; omega) (.int .i64 b)).setCell (p := ⟨n + 2, 3, none⟩) (by simp only; omega) (.int .i64 c))
        generalize ((((w1.setCell ⟨n + 2, 0, none⟩ (.int .i64 W)).setCell ⟨n + 2, 1, none⟩ (.int .i64 a)).setCell ⟨n + 2, 2, none⟩ (.int .i64 b)).setCell ⟨n + 2, 3, none⟩ (.int .i64 c)) = W9 at *
        have x0 : W9.cell? ⟨n + 2, 0, none⟩ = some (.int .i64 W) := by rw [hz.cell]; rfl
        have x1 : W9.cell? ⟨n + 2, 1, none⟩ = some (.int .i64 a) := by rw [hz.cell]; rfl
        have x2 : W9.cell? ⟨n + 2, 2, none⟩ = some (.int .i64 b) := by rw [hz.cell]; rfl
        have x3 : W9.cell? ⟨n + 2, 3, none⟩ = some (.int .i64 c) := by rw [hz.cell]; rfl
        exact bodyPost_ret (v := .tuple #[.agg #[.int .i64 W, .int .i64 a, .int .i64 b, .int .i64 c], .int .i64 0]) (by simp [results, Try.results91, go_sem, x0, x1, x2, x3]) rfl ⟨rfl, hn ▸ hB⟩
theorem rhear_any (W a b c a' b' c' : Int) (hW : wallB W) (w : World) :
    Calls Try.prog 90 #[ckV W a b c, stV a' b' c'] w fun e w' => e = .returned (.tuple #[ckV W (if heE W a' b' c' = 0 then hlA a b a' b' else a) (if heE W a' b' c' = 0 then hlC a b a' b' else b) c, .int .i64 (heE W a' b' c')]) ∧ Below w.heap.size w w' := by
  have C1 := Lib.hid (fun w => rcright_any a' b' c' w)
  have hr := fun (h : stB a' b' c' = true) => Lib.hid (fun w => rrestore_any W a b c a' b' c' w)
  have hq : stB a' b' c' = true → 0 ≤ a' ∧ a' ≤ 4398046511104 := by
    intro hb
    simp [stB, inB] at hb
    omega
  unfold rsE rsA rsC at hr
  unfold heE
  unfold wallB at hW
  generalize hA : hlA a b a' b' = A1 at *
  generalize hC : hlC a b a' b' = B1 at *
  generalize stB a' b' c' = q at *
  have e1 : IntKind.i64.wrap (W + 60000) = W + 60000 := IntWalk.i64_in _ (by omega)
  unfold ckV stV at *
  have hX := Lib.hid (box3_new w 53 43 53 #[.int .i64 W, .int .i64 a, .int .i64 b, .int .i64 c] #[.int .i64 a', .int .i64 b', .int .i64 c'] #[.int .i64 0, .int .i64 0, .int .i64 0, .int .i64 0])
  cases q
  · simp only [Bool.false_eq_true, if_false, show ((4 : Int) = 0) = False from by simp]
    clear hq hr hA hC hW
    go_enter Try.func90, Try.ntmps90
    go_wp2_with fail
    generalize hW0 : (((w.alloc (.cells #[.int .i64 W, .int .i64 a, .int .i64 b, .int .i64 c] 53)).alloc (.cells #[.int .i64 a', .int .i64 b', .int .i64 c'] 43)).alloc (.cells #[.int .i64 0, .int .i64 0, .int .i64 0, .int .i64 0] 53)) = W0 at *
    generalize hn : w.heap.size = n at *
    clear hW0
    go_wp2_with fail
    refine (C1.out _).mono ?_; rintro e w1 ⟨rfl, b1⟩
    obtain ⟨hb, hs, k, s, z⟩ := (hX.out.step b1)
    have k0 : w1.cell? ⟨n, 0, none⟩ = some (.int .i64 W) := by rw [k.cell]; rfl
    have k1 : w1.cell? ⟨n, 1, none⟩ = some (.int .i64 a) := by rw [k.cell]; rfl
    have k2 : w1.cell? ⟨n, 2, none⟩ = some (.int .i64 b) := by rw [k.cell]; rfl
    have k3 : w1.cell? ⟨n, 3, none⟩ = some (.int .i64 c) := by rw [k.cell]; rfl
    have s0 : w1.cell? ⟨n + 1, 0, none⟩ = some (.int .i64 a') := by rw [s.cell]; rfl
    have s1 : w1.cell? ⟨n + 1, 1, none⟩ = some (.int .i64 b') := by rw [s.cell]; rfl
    have s2 : w1.cell? ⟨n + 1, 2, none⟩ = some (.int .i64 c') := by rw [s.cell]; rfl
    have z0 : w1.cell? ⟨n + 2, 0, none⟩ = some (.int .i64 0) := by rw [z.cell]; rfl
    have z1 : w1.cell? ⟨n + 2, 1, none⟩ = some (.int .i64 0) := by rw [z.cell]; rfl
    have z2 : w1.cell? ⟨n + 2, 2, none⟩ = some (.int .i64 0) := by rw [z.cell]; rfl
    have z3 : w1.cell? ⟨n + 2, 3, none⟩ = some (.int .i64 0) := by rw [z.cell]; rfl
    have f0 := k.free 0
    have f1 := k.free 1
    have f2 := k.free 2
    have f3 := k.free 3
    have j0 := z.free 0
    have j1 := z.free 1
    have j2 := z.free 2
    have j3 := z.free 3
    have KK := Lib.hid k
    have ZZ := Lib.hid z
    have BB := Lib.hid hb
    clear k s z hb
    clear b1
    go_wp2
    have k := KK.out
    have z := ZZ.out
    have hb := BB.out
    have hz := ((((z.set_ 0 (.int .i64 W)).set_ 1 (.int .i64 a)).set_ 2 (.int .i64 b)).set_ 3 (.int .i64 c))
    have hB := ((((hb.setCell (p := ⟨n + 2, 0, none⟩) (by simp only; omega) (.int .i64 W)).setCell (p := ⟨n + 2, 1, none⟩) (by simp only; omega) (.int .i64 a)).setCell (p := ⟨n + 2, 2, none⟩) (by simp only; omega) (.int .i64 b)).setCell (p := ⟨n + 2, 3, none⟩) (by simp only; omega) (.int .i64 c))
    generalize ((((w1.setCell ⟨n + 2, 0, none⟩ (.int .i64 W)).setCell ⟨n + 2, 1, none⟩ (.int .i64 a)).setCell ⟨n + 2, 2, none⟩ (.int .i64 b)).setCell ⟨n + 2, 3, none⟩ (.int .i64 c)) = W9 at *
    have x0 : W9.cell? ⟨n + 2, 0, none⟩ = some (.int .i64 W) := by rw [hz.cell]; rfl
    have x1 : W9.cell? ⟨n + 2, 1, none⟩ = some (.int .i64 a) := by rw [hz.cell]; rfl
    have x2 : W9.cell? ⟨n + 2, 2, none⟩ = some (.int .i64 b) := by rw [hz.cell]; rfl
    have x3 : W9.cell? ⟨n + 2, 3, none⟩ = some (.int .i64 c) := by rw [hz.cell]; rfl
    exact bodyPost_ret (v := .tuple #[.agg #[.int .i64 W, .int .i64 a, .int .i64 b, .int .i64 c], .int .i64 4]) (by simp [results, Try.results90, go_sem, x0, x1, x2, x3]) rfl ⟨rfl, hn ▸ hB⟩
  · have C2 := hr rfl
    simp only [if_true] at C2
    clear hr hq hA hC
    by_cases hx : 60000 < a' - W
    · have t1 : W + 60000 < a' := by omega
      simp only [hx, if_true, show ((8 : Int) = 0) = False from by simp, if_false]
      clear hx hW C2
      go_enter Try.func90, Try.ntmps90
      go_wp2_with fail
      generalize hW0 : (((w.alloc (.cells #[.int .i64 W, .int .i64 a, .int .i64 b, .int .i64 c] 53)).alloc (.cells #[.int .i64 a', .int .i64 b', .int .i64 c'] 43)).alloc (.cells #[.int .i64 0, .int .i64 0, .int .i64 0, .int .i64 0] 53)) = W0 at *
      generalize hn : w.heap.size = n at *
      clear hW0
      go_wp2_with fail
      refine (C1.out _).mono ?_; rintro e w1 ⟨rfl, b1⟩
      obtain ⟨hb, hs, k, s, z⟩ := (hX.out.step b1)
      have k0 : w1.cell? ⟨n, 0, none⟩ = some (.int .i64 W) := by rw [k.cell]; rfl
      have k1 : w1.cell? ⟨n, 1, none⟩ = some (.int .i64 a) := by rw [k.cell]; rfl
      have k2 : w1.cell? ⟨n, 2, none⟩ = some (.int .i64 b) := by rw [k.cell]; rfl
      have k3 : w1.cell? ⟨n, 3, none⟩ = some (.int .i64 c) := by rw [k.cell]; rfl
      have s0 : w1.cell? ⟨n + 1, 0, none⟩ = some (.int .i64 a') := by rw [s.cell]; rfl
      have s1 : w1.cell? ⟨n + 1, 1, none⟩ = some (.int .i64 b') := by rw [s.cell]; rfl
      have s2 : w1.cell? ⟨n + 1, 2, none⟩ = some (.int .i64 c') := by rw [s.cell]; rfl
      have z0 : w1.cell? ⟨n + 2, 0, none⟩ = some (.int .i64 0) := by rw [z.cell]; rfl
      have z1 : w1.cell? ⟨n + 2, 1, none⟩ = some (.int .i64 0) := by rw [z.cell]; rfl
      have z2 : w1.cell? ⟨n + 2, 2, none⟩ = some (.int .i64 0) := by rw [z.cell]; rfl
      have z3 : w1.cell? ⟨n + 2, 3, none⟩ = some (.int .i64 0) := by rw [z.cell]; rfl
      have f0 := k.free 0
      have f1 := k.free 1
      have f2 := k.free 2
      have f3 := k.free 3
      have j0 := z.free 0
      have j1 := z.free 1
      have j2 := z.free 2
      have j3 := z.free 3
      have KK := Lib.hid k
      have ZZ := Lib.hid z
      have BB := Lib.hid hb
      clear k s z hb
      clear b1
      go_wp2
      have k := KK.out
      have z := ZZ.out
      have hb := BB.out
      have hz := ((((z.set_ 0 (.int .i64 W)).set_ 1 (.int .i64 a)).set_ 2 (.int .i64 b)).set_ 3 (.int .i64 c))
      have hB := ((((hb.setCell (p := ⟨n + 2, 0, none⟩) (by simp only; omega) (.int .i64 W)).setCell (p := ⟨n + 2, 1, none⟩) (by simp only; omega) (.int .i64 a)).setCell (p := ⟨n + 2, 2, none⟩) (by simp only; omega) (.int .i64 b)).setCell (p := ⟨n + 2, 3, none⟩) (by simp only; omega) (.int .i64 c))
      generalize ((((w1.setCell ⟨n + 2, 0, none⟩ (.int .i64 W)).setCell ⟨n + 2, 1, none⟩ (.int .i64 a)).setCell ⟨n + 2, 2, none⟩ (.int .i64 b)).setCell ⟨n + 2, 3, none⟩ (.int .i64 c)) = W9 at *
      have x0 : W9.cell? ⟨n + 2, 0, none⟩ = some (.int .i64 W) := by rw [hz.cell]; rfl
      have x1 : W9.cell? ⟨n + 2, 1, none⟩ = some (.int .i64 a) := by rw [hz.cell]; rfl
      have x2 : W9.cell? ⟨n + 2, 2, none⟩ = some (.int .i64 b) := by rw [hz.cell]; rfl
      have x3 : W9.cell? ⟨n + 2, 3, none⟩ = some (.int .i64 c) := by rw [hz.cell]; rfl
      exact bodyPost_ret (v := .tuple #[.agg #[.int .i64 W, .int .i64 a, .int .i64 b, .int .i64 c], .int .i64 8]) (by simp [results, Try.results90, go_sem, x0, x1, x2, x3]) rfl ⟨rfl, hn ▸ hB⟩
    · have t1 : ¬ W + 60000 < a' := by omega
      simp only [hx, if_true, if_false]
      clear hx hW
      go_enter Try.func90, Try.ntmps90
      go_wp2_with fail
      generalize hW0 : (((w.alloc (.cells #[.int .i64 W, .int .i64 a, .int .i64 b, .int .i64 c] 53)).alloc (.cells #[.int .i64 a', .int .i64 b', .int .i64 c'] 43)).alloc (.cells #[.int .i64 0, .int .i64 0, .int .i64 0, .int .i64 0] 53)) = W0 at *
      generalize hn : w.heap.size = n at *
      clear hW0
      go_wp2_with fail
      refine (C1.out _).mono ?_; rintro e w1 ⟨rfl, b1⟩
      obtain ⟨hb, hs, k, s, z⟩ := (hX.out.step b1)
      have k0 : w1.cell? ⟨n, 0, none⟩ = some (.int .i64 W) := by rw [k.cell]; rfl
      have k1 : w1.cell? ⟨n, 1, none⟩ = some (.int .i64 a) := by rw [k.cell]; rfl
      have k2 : w1.cell? ⟨n, 2, none⟩ = some (.int .i64 b) := by rw [k.cell]; rfl
      have k3 : w1.cell? ⟨n, 3, none⟩ = some (.int .i64 c) := by rw [k.cell]; rfl
      have s0 : w1.cell? ⟨n + 1, 0, none⟩ = some (.int .i64 a') := by rw [s.cell]; rfl
      have s1 : w1.cell? ⟨n + 1, 1, none⟩ = some (.int .i64 b') := by rw [s.cell]; rfl
      have s2 : w1.cell? ⟨n + 1, 2, none⟩ = some (.int .i64 c') := by rw [s.cell]; rfl
      have z0 : w1.cell? ⟨n + 2, 0, none⟩ = some (.int .i64 0) := by rw [z.cell]; rfl
      have z1 : w1.cell? ⟨n + 2, 1, none⟩ = some (.int .i64 0) := by rw [z.cell]; rfl
      have z2 : w1.cell? ⟨n + 2, 2, none⟩ = some (.int .i64 0) := by rw [z.cell]; rfl
      have z3 : w1.cell? ⟨n + 2, 3, none⟩ = some (.int .i64 0) := by rw [z.cell]; rfl
      have f0 := k.free 0
      have f1 := k.free 1
      have f2 := k.free 2
      have f3 := k.free 3
      have j0 := z.free 0
      have j1 := z.free 1
      have j2 := z.free 2
      have j3 := z.free 3
      have XX := Lib.hid (show Box3 _ _ _ _ _ _ _ _ _ from ⟨hb, hs, k, s, z⟩)
      clear b1
      clear k s z hb hs
      go_wp2_with fail
      clear k0 k1 k2 k3 s0 s1 s2 z0 z1 z2 z3 f0 f1 f2 f3 j0 j1 j2 j3
      refine (C2.out _).mono ?_; rintro e w2 ⟨rfl, b2⟩
      obtain ⟨hb, hs, k, s, z⟩ := (XX.out.step b2)
      have k0 : w2.cell? ⟨n, 0, none⟩ = some (.int .i64 W) := by rw [k.cell]; rfl
      have k1 : w2.cell? ⟨n, 1, none⟩ = some (.int .i64 a) := by rw [k.cell]; rfl
      have k2 : w2.cell? ⟨n, 2, none⟩ = some (.int .i64 b) := by rw [k.cell]; rfl
      have k3 : w2.cell? ⟨n, 3, none⟩ = some (.int .i64 c) := by rw [k.cell]; rfl
      have s0 : w2.cell? ⟨n + 1, 0, none⟩ = some (.int .i64 a') := by rw [s.cell]; rfl
      have s1 : w2.cell? ⟨n + 1, 1, none⟩ = some (.int .i64 b') := by rw [s.cell]; rfl
      have s2 : w2.cell? ⟨n + 1, 2, none⟩ = some (.int .i64 c') := by rw [s.cell]; rfl
      have z0 : w2.cell? ⟨n + 2, 0, none⟩ = some (.int .i64 0) := by rw [z.cell]; rfl
      have z1 : w2.cell? ⟨n + 2, 1, none⟩ = some (.int .i64 0) := by rw [z.cell]; rfl
      have z2 : w2.cell? ⟨n + 2, 2, none⟩ = some (.int .i64 0) := by rw [z.cell]; rfl
      have z3 : w2.cell? ⟨n + 2, 3, none⟩ = some (.int .i64 0) := by rw [z.cell]; rfl
      have f0 := k.free 0
      have f1 := k.free 1
      have f2 := k.free 2
      have f3 := k.free 3
      have j0 := z.free 0
      have j1 := z.free 1
      have j2 := z.free 2
      have j3 := z.free 3
      clear b2
      have KK := Lib.hid k
      have ZZ := Lib.hid z
      have BB := Lib.hid hb
      clear k s z hb
      go_wp2
      have k := KK.out
      have z := ZZ.out
      have hb := BB.out
      have hz := ((((z.set_ 0 (.int .i64 W)).set_ 1 (.int .i64 A1)).set_ 2 (.int .i64 B1)).set_ 3 (.int .i64 c))
      have hB := ((((hb.setCell (p := ⟨n + 2, 0, none⟩) (by simp only; omega) (.int .i64 W)).setCell (p := ⟨n + 2, 1, none⟩) (by simp only; omega) (.int .i64 A1)).setCell (p := ⟨n + 2, 2, none⟩) (by simp only; omega) (.int .i64 B1)).setCell (p := ⟨n + 2, 3, none⟩) (by simp only; omega) (.int .i64 c))
      generalize ((((w2.setCell ⟨n + 2, 0, none⟩ (.int .i64 W)).setCell ⟨n + 2, 1, none⟩ (.int .i64 A1)).setCell ⟨n + 2, 2, none⟩ (.int .i64 B1)).setCell ⟨n + 2, 3, none⟩ (.int .i64 c)) = W9 at *
      have x0 : W9.cell? ⟨n + 2, 0, none⟩ = some (.int .i64 W) := by rw [hz.cell]; rfl
      have x1 : W9.cell? ⟨n + 2, 1, none⟩ = some (.int .i64 A1) := by rw [hz.cell]; rfl
      have x2 : W9.cell? ⟨n + 2, 2, none⟩ = some (.int .i64 B1) := by rw [hz.cell]; rfl
      have x3 : W9.cell? ⟨n + 2, 3, none⟩ = some (.int .i64 c) := by rw [hz.cell]; rfl
      exact bodyPost_ret (v := .tuple #[.agg #[.int .i64 W, .int .i64 A1, .int .i64 B1, .int .i64 c], .int .i64 0]) (by simp [results, Try.results90, go_sem, x0, x1, x2, x3]) rfl ⟨rfl, hn ▸ hB⟩
theorem rnext_any (W a b c : Int) (hb : 0 ≤ b ∧ b ≤ 65535) (w : World) :
    Calls Try.prog 89 #[ckV W a b c] w fun e w' => e = .returned (.tuple #[ckV W (nxA W a b c) (nxC W a b c) c, stV (pkV W a b c).1 (pkV W a b c).2.1 (pkV W a b c).2.2.1, .int .i64 (pkV W a b c).2.2.2]) ∧ Below w.heap.size w w' := by
  have C1 := Lib.hid (fun w => rpeek_any W a b c hb w)
  have hd := pk_dev (W := W) (a := a) (b := b) (c := c)
  unfold nxA nxC
  generalize pkV W a b c = P at *
  obtain ⟨pa, pb, pc, pe⟩ := P
  simp only at *
  clear hb
  unfold ckV stV at *
  have hX := Lib.hid (box3_new w 53 53 43 #[.int .i64 W, .int .i64 a, .int .i64 b, .int .i64 c] #[.int .i64 0, .int .i64 0, .int .i64 0, .int .i64 0] #[.int .i64 0, .int .i64 0, .int .i64 0])
  by_cases he : pe = 0
  · subst he
    have hd2 := hd rfl
    subst hd2
    simp only [if_true]
    clear hd
    go_enter Try.func89, Try.ntmps89
    go_wp2_with fail
    generalize hW0 : (((w.alloc (.cells #[.int .i64 W, .int .i64 a, .int .i64 b, .int .i64 pc] 53)).alloc (.cells #[.int .i64 0, .int .i64 0, .int .i64 0, .int .i64 0] 53)).alloc (.cells #[.int .i64 0, .int .i64 0, .int .i64 0] 43)) = W0 at *
    generalize hn : w.heap.size = n at *
    clear hW0
    go_wp2_with fail
    refine (C1.out _).mono ?_; rintro e w1 ⟨rfl, b1⟩
    obtain ⟨hb, hs, k, y, z⟩ := (hX.out.step b1).step ((Below.refl _ _).alloc (Nat.le_refl _) (.cells #[.int .i64 pa, .int .i64 pb, .int .i64 pc] 43))
    have v := Whole.new w1 43 #[.int .i64 pa, .int .i64 pb, .int .i64 pc]
    have hm : n + 3 ≤ w1.heap.size := (hX.out.step b1).2.1
    clear b1 hs
    have K1 := Lib.hid k
    have Y1 := Lib.hid y
    have Z1 := Lib.hid z
    have V1 := Lib.hid v
    have B1 := Lib.hid hb
    clear k y z v hb
    go_upto_region 2 with (fail)
    generalize (w1.alloc (.cells #[.int .i64 pa, .int .i64 pb, .int .i64 pc] 43)) = w2 at *
    generalize w1.heap.size = m at *
    have k := K1.out
    have y := Y1.out
    have z := Z1.out
    have v := V1.out
    have k0 : w2.cell? ⟨n, 0, none⟩ = some (.int .i64 W) := by rw [k.cell]; rfl
    have k1 : w2.cell? ⟨n, 1, none⟩ = some (.int .i64 a) := by rw [k.cell]; rfl
    have k2 : w2.cell? ⟨n, 2, none⟩ = some (.int .i64 b) := by rw [k.cell]; rfl
    have k3 : w2.cell? ⟨n, 3, none⟩ = some (.int .i64 pc) := by rw [k.cell]; rfl
    have y0 : w2.cell? ⟨n + 1, 0, none⟩ = some (.int .i64 0) := by rw [y.cell]; rfl
    have y1 : w2.cell? ⟨n + 1, 1, none⟩ = some (.int .i64 0) := by rw [y.cell]; rfl
    have y2 : w2.cell? ⟨n + 1, 2, none⟩ = some (.int .i64 0) := by rw [y.cell]; rfl
    have y3 : w2.cell? ⟨n + 1, 3, none⟩ = some (.int .i64 0) := by rw [y.cell]; rfl
    have z0 : w2.cell? ⟨n + 2, 0, none⟩ = some (.int .i64 0) := by rw [z.cell]; rfl
    have z1 : w2.cell? ⟨n + 2, 1, none⟩ = some (.int .i64 0) := by rw [z.cell]; rfl
    have z2 : w2.cell? ⟨n + 2, 2, none⟩ = some (.int .i64 0) := by rw [z.cell]; rfl
    have v0 : w2.cell? ⟨m, 0, none⟩ = some (.int .i64 pa) := by rw [v.cell]; rfl
    have v1 : w2.cell? ⟨m, 1, none⟩ = some (.int .i64 pb) := by rw [v.cell]; rfl
    have v2 : w2.cell? ⟨m, 2, none⟩ = some (.int .i64 pc) := by rw [v.cell]; rfl
    have f0 := k.free 0
    have f1 := k.free 1
    have f2 := k.free 2
    have f3 := k.free 3
    have g0 := y.free 0
    have g1 := y.free 1
    have g2 := y.free 2
    have g3 := y.free 3
    have j0 := z.free 0
    have j1 := z.free 1
    have j2 := z.free 2
    clear k y z v
    have d1 : n ≠ m := by omega
    have d2 : n + 1 ≠ m := by omega
    have d3 : n + 2 ≠ m := by omega
    go_wp2
    go_region
    go_wp2
    have y := Y1.out
    have z := Z1.out
    have hb := B1.out
    have hy := ((((((((((y.far (p := ⟨n, 1, none⟩) (by show n + 1 ≠ n; omega) (.int .i64 pa)).far (p := ⟨n, 2, none⟩) (by show n + 1 ≠ n; omega) (.int .i64 pb)).far (p := ⟨n, 3, none⟩) (by show n + 1 ≠ n; omega) (.int .i64 pc)).set_ 0 (.int .i64 W)).set_ 1 (.int .i64 pa)).set_ 2 (.int .i64 pb)).set_ 3 (.int .i64 pc)).far (p := ⟨n + 2, 0, none⟩) (by show n + 1 ≠ n + 2; omega) (.int .i64 pa)).far (p := ⟨n + 2, 1, none⟩) (by show n + 1 ≠ n + 2; omega) (.int .i64 pb)).far (p := ⟨n + 2, 2, none⟩) (by show n + 1 ≠ n + 2; omega) (.int .i64 pc)).drew
    have hz := ((((((((((z.far (p := ⟨n, 1, none⟩) (by show n + 2 ≠ n; omega) (.int .i64 pa)).far (p := ⟨n, 2, none⟩) (by show n + 2 ≠ n; omega) (.int .i64 pb)).far (p := ⟨n, 3, none⟩) (by show n + 2 ≠ n; omega) (.int .i64 pc)).far (p := ⟨n + 1, 0, none⟩) (by show n + 2 ≠ n + 1; omega) (.int .i64 W)).far (p := ⟨n + 1, 1, none⟩) (by show n + 2 ≠ n + 1; omega) (.int .i64 pa)).far (p := ⟨n + 1, 2, none⟩) (by show n + 2 ≠ n + 1; omega) (.int .i64 pb)).far (p := ⟨n + 1, 3, none⟩) (by show n + 2 ≠ n + 1; omega) (.int .i64 pc)).set_ 0 (.int .i64 pa)).set_ 1 (.int .i64 pb)).set_ 2 (.int .i64 pc)).drew
    have hB := ((((((((((hb.setCell (p := ⟨n, 1, none⟩) (by simp only; omega) (.int .i64 pa)).setCell (p := ⟨n, 2, none⟩) (by simp only; omega) (.int .i64 pb)).setCell (p := ⟨n, 3, none⟩) (by simp only; omega) (.int .i64 pc)).setCell (p := ⟨n + 1, 0, none⟩) (by simp only; omega) (.int .i64 W)).setCell (p := ⟨n + 1, 1, none⟩) (by simp only; omega) (.int .i64 pa)).setCell (p := ⟨n + 1, 2, none⟩) (by simp only; omega) (.int .i64 pb)).setCell (p := ⟨n + 1, 3, none⟩) (by simp only; omega) (.int .i64 pc)).setCell (p := ⟨n + 2, 0, none⟩) (by simp only; omega) (.int .i64 pa)).setCell (p := ⟨n + 2, 1, none⟩) (by simp only; omega) (.int .i64 pb)).setCell (p := ⟨n + 2, 2, none⟩) (by simp only; omega) (.int .i64 pc)).drew
    generalize ((((((((((w2.setCell ⟨n, 1, none⟩ (.int .i64 pa)).setCell ⟨n, 2, none⟩ (.int .i64 pb)).setCell ⟨n, 3, none⟩ (.int .i64 pc)).setCell ⟨n + 1, 0, none⟩ (.int .i64 W)).setCell ⟨n + 1, 1, none⟩ (.int .i64 pa)).setCell ⟨n + 1, 2, none⟩ (.int .i64 pb)).setCell ⟨n + 1, 3, none⟩ (.int .i64 pc)).setCell ⟨n + 2, 0, none⟩ (.int .i64 pa)).setCell ⟨n + 2, 1, none⟩ (.int .i64 pb)).setCell ⟨n + 2, 2, none⟩ (.int .i64 pc)).drew = W9 at *
    have x0 : W9.cell? ⟨n + 1, 0, none⟩ = some (.int .i64 W) := by rw [hy.cell]; rfl
    have x1 : W9.cell? ⟨n + 1, 1, none⟩ = some (.int .i64 pa) := by rw [hy.cell]; rfl
    have x2 : W9.cell? ⟨n + 1, 2, none⟩ = some (.int .i64 pb) := by rw [hy.cell]; rfl
    have x3 : W9.cell? ⟨n + 1, 3, none⟩ = some (.int .i64 pc) := by rw [hy.cell]; rfl
    have u0 : W9.cell? ⟨n + 2, 0, none⟩ = some (.int .i64 pa) := by rw [hz.cell]; rfl
    have u1 : W9.cell? ⟨n + 2, 1, none⟩ = some (.int .i64 pb) := by rw [hz.cell]; rfl
    have u2 : W9.cell? ⟨n + 2, 2, none⟩ = some (.int .i64 pc) := by rw [hz.cell]; rfl
    exact bodyPost_ret (v := .tuple #[.agg #[.int .i64 W, .int .i64 pa, .int .i64 pb, .int .i64 pc], .agg #[.int .i64 pa, .int .i64 pb, .int .i64 pc], .int .i64 0]) (by simp [results, Try.results89, go_sem, x0, x1, x2, x3, u0, u1, u2]) rfl ⟨rfl, hn ▸ hB⟩
  · have te : (pe == 0) = false := by simp [he]
    simp only [he, if_false]
    clear hd he
    go_enter Try.func89, Try.ntmps89
    go_wp2_with fail
    generalize hW0 : (((w.alloc (.cells #[.int .i64 W, .int .i64 a, .int .i64 b, .int .i64 c] 53)).alloc (.cells #[.int .i64 0, .int .i64 0, .int .i64 0, .int .i64 0] 53)).alloc (.cells #[.int .i64 0, .int .i64 0, .int .i64 0] 43)) = W0 at *
    generalize hn : w.heap.size = n at *
    clear hW0
    go_wp2_with fail
    refine (C1.out _).mono ?_; rintro e w1 ⟨rfl, b1⟩
    obtain ⟨hb, hs, k, y, z⟩ := (hX.out.step b1).step ((Below.refl _ _).alloc (Nat.le_refl _) (.cells #[.int .i64 pa, .int .i64 pb, .int .i64 pc] 43))
    have v := Whole.new w1 43 #[.int .i64 pa, .int .i64 pb, .int .i64 pc]
    have hm : n + 3 ≤ w1.heap.size := (hX.out.step b1).2.1
    clear b1 hs
    have K1 := Lib.hid k
    have Y1 := Lib.hid y
    have Z1 := Lib.hid z
    have V1 := Lib.hid v
    have B1 := Lib.hid hb
    clear k y z v hb
    go_upto_region 2 with (fail)
    generalize (w1.alloc (.cells #[.int .i64 pa, .int .i64 pb, .int .i64 pc] 43)) = w2 at *
    generalize w1.heap.size = m at *
    have k := K1.out
    have y := Y1.out
    have z := Z1.out
    have v := V1.out
    have k0 : w2.cell? ⟨n, 0, none⟩ = some (.int .i64 W) := by rw [k.cell]; rfl
    have k1 : w2.cell? ⟨n, 1, none⟩ = some (.int .i64 a) := by rw [k.cell]; rfl
    have k2 : w2.cell? ⟨n, 2, none⟩ = some (.int .i64 b) := by rw [k.cell]; rfl
    have k3 : w2.cell? ⟨n, 3, none⟩ = some (.int .i64 c) := by rw [k.cell]; rfl
    have y0 : w2.cell? ⟨n + 1, 0, none⟩ = some (.int .i64 0) := by rw [y.cell]; rfl
    have y1 : w2.cell? ⟨n + 1, 1, none⟩ = some (.int .i64 0) := by rw [y.cell]; rfl
    have y2 : w2.cell? ⟨n + 1, 2, none⟩ = some (.int .i64 0) := by rw [y.cell]; rfl
    have y3 : w2.cell? ⟨n + 1, 3, none⟩ = some (.int .i64 0) := by rw [y.cell]; rfl
    have z0 : w2.cell? ⟨n + 2, 0, none⟩ = some (.int .i64 0) := by rw [z.cell]; rfl
    have z1 : w2.cell? ⟨n + 2, 1, none⟩ = some (.int .i64 0) := by rw [z.cell]; rfl
    have z2 : w2.cell? ⟨n + 2, 2, none⟩ = some (.int .i64 0) := by rw [z.cell]; rfl
    have v0 : w2.cell? ⟨m, 0, none⟩ = some (.int .i64 pa) := by rw [v.cell]; rfl
    have v1 : w2.cell? ⟨m, 1, none⟩ = some (.int .i64 pb) := by rw [v.cell]; rfl
    have v2 : w2.cell? ⟨m, 2, none⟩ = some (.int .i64 pc) := by rw [v.cell]; rfl
    have f0 := k.free 0
    have f1 := k.free 1
    have f2 := k.free 2
    have f3 := k.free 3
    have g0 := y.free 0
    have g1 := y.free 1
    have g2 := y.free 2
    have g3 := y.free 3
    have j0 := z.free 0
    have j1 := z.free 1
    have j2 := z.free 2
    clear k y z v
    have d1 : n ≠ m := by omega
    have d2 : n + 1 ≠ m := by omega
    have d3 : n + 2 ≠ m := by omega
    go_wp2
    go_region
    go_wp2
    have y := Y1.out
    have z := Z1.out
    have hb := B1.out
    have hy := (((((((y.set_ 0 (.int .i64 W)).set_ 1 (.int .i64 a)).set_ 2 (.int .i64 b)).set_ 3 (.int .i64 c)).far (p := ⟨n + 2, 0, none⟩) (by show n + 1 ≠ n + 2; omega) (.int .i64 pa)).far (p := ⟨n + 2, 1, none⟩) (by show n + 1 ≠ n + 2; omega) (.int .i64 pb)).far (p := ⟨n + 2, 2, none⟩) (by show n + 1 ≠ n + 2; omega) (.int .i64 pc)).drew
    have hz := (((((((z.far (p := ⟨n + 1, 0, none⟩) (by show n + 2 ≠ n + 1; omega) (.int .i64 W)).far (p := ⟨n + 1, 1, none⟩) (by show n + 2 ≠ n + 1; omega) (.int .i64 a)).far (p := ⟨n + 1, 2, none⟩) (by show n + 2 ≠ n + 1; omega) (.int .i64 b)).far (p := ⟨n + 1, 3, none⟩) (by show n + 2 ≠ n + 1; omega) (.int .i64 c)).set_ 0 (.int .i64 pa)).set_ 1 (.int .i64 pb)).set_ 2 (.int .i64 pc)).drew
    have hB := (((((((hb.setCell (p := ⟨n + 1, 0, none⟩) (by simp only; omega) (.int .i64 W)).setCell (p := ⟨n + 1, 1, none⟩) (by simp only; omega) (.int .i64 a)).setCell (p := ⟨n + 1, 2, none⟩) (by simp only; omega) (.int .i64 b)).setCell (p := ⟨n + 1, 3, none⟩) (by simp only; omega) (.int .i64 c)).setCell (p := ⟨n + 2, 0, none⟩) (by simp only; omega) (.int .i64 pa)).setCell (p := ⟨n + 2, 1, none⟩) (by simp only; omega) (.int .i64 pb)).setCell (p := ⟨n + 2, 2, none⟩) (by simp only; omega) (.int .i64 pc)).drew
    generalize (((((((w2.setCell ⟨n + 1, 0, none⟩ (.int .i64 W)).setCell ⟨n + 1, 1, none⟩ (.int .i64 a)).setCell ⟨n + 1, 2, none⟩ (.int .i64 b)).setCell ⟨n + 1, 3, none⟩ (.int .i64 c)).setCell ⟨n + 2, 0, none⟩ (.int .i64 pa)).setCell ⟨n + 2, 1, none⟩ (.int .i64 pb)).setCell ⟨n + 2, 2, none⟩ (.int .i64 pc)).drew = W9 at *
    have x0 : W9.cell? ⟨n + 1, 0, none⟩ = some (.int .i64 W) := by rw [hy.cell]; rfl
    have x1 : W9.cell? ⟨n + 1, 1, none⟩ = some (.int .i64 a) := by rw [hy.cell]; rfl
    have x2 : W9.cell? ⟨n + 1, 2, none⟩ = some (.int .i64 b) := by rw [hy.cell]; rfl
    have x3 : W9.cell? ⟨n + 1, 3, none⟩ = some (.int .i64 c) := by rw [hy.cell]; rfl
    have u0 : W9.cell? ⟨n + 2, 0, none⟩ = some (.int .i64 pa) := by rw [hz.cell]; rfl
    have u1 : W9.cell? ⟨n + 2, 1, none⟩ = some (.int .i64 pb) := by rw [hz.cell]; rfl
    have u2 : W9.cell? ⟨n + 2, 2, none⟩ = some (.int .i64 pc) := by rw [hz.cell]; rfl
    exact bodyPost_ret (v := .tuple #[.agg #[.int .i64 W, .int .i64 a, .int .i64 b, .int .i64 c], .agg #[.int .i64 pa, .int .i64 pb, .int .i64 pc], .int .i64 pe]) (by simp [results, Try.results89, go_sem, x0, x1, x2, x3, u0, u1, u2]) rfl ⟨rfl, hn ▸ hB⟩
end Go.Proofs.Ytjlmbdhjpjbneaa
