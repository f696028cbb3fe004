/- Layer 19 (clock): Restore, Hear, Next, by program. -/
import Derived.Test.YtjlmbdhjpjbneaaK3
import Derived.Deep.DeepCutAuto
namespace Go.Proofs.Ytjlmbdhjpjbneaa
open Go.RowKit
set_option linter.unusedVariables false
set_option maxRecDepth 100000

def rsE (a' b' c' : Int) : Int := if stB a' b' c' then 0 else 4
def rsA (a b a' b' c' : Int) : Int := if stB a' b' c' then hlA a b a' b' else a
def rsC (a b a' b' c' : Int) : Int := if stB a' b' c' then hlC a b a' b' else b
theorem restore_any (W a b c a' b' c' : Int) (w : World) (g : Nat) (h : Ck w g W a b c) :
    Calls Try.prog 35 #[gp g, stV a' b' c'] w fun e w' => e = .returned (.int .i64 (rsE a' b' c')) ∧ Ck w' g W (rsA a b a' b' c') (rsC a b a' b' c') c ∧ Ch (fun k => k = g) w w' := by
  have C1 := Lib.hid (fun w => cright_any a' b' c' w)
  have C2 := Lib.hid (fun w h => hear_any W a b c a' b' c' w g h)
  unfold rsE rsA rsC
  generalize stB a' b' c' = q at *
  have hg := h.lt
  have hB := Lib.hid ((Below.refl w.heap.size w).alloc (Nat.le_refl _) (.cells #[.int .i64 a', .int .i64 b', .int .i64 c'] 43))
  have hS := Lib.hid (Whole.new w 43 #[.int .i64 a', .int .i64 b', .int .i64 c'])
  have hK := Lib.hid (show Ck _ g W a b c from Whole.alloc h (.cells #[.int .i64 a', .int .i64 b', .int .i64 c'] 43))
  clear h
  unfold gp stV at *
  cases q
  · simp only [Bool.false_eq_true, if_false]
    go_enter Try.func35, Try.ntmps35
    go_wp2_with fail
    refine (C1.out _).mono ?_; rintro e w1 ⟨rfl, b1⟩
    go_wp2
    go_ret
    exact ⟨rfl, hK.out.below b1 hK.out.lt, below_ch (below_step hB.out b1)⟩
  · simp only [if_true]
    go_enter Try.func35, Try.ntmps35
    go_wp2_with fail
    refine (C1.out _).mono ?_; rintro e w1 ⟨rfl, b1⟩
    have hk : Ck w1 g W a b c := hK.out.below b1 hK.out.lt
    have hs := hS.out.below b1 hS.out.lt
    have s0 : w1.cell? ⟨w.heap.size, 0, none⟩ = some (.int .i64 a') := by rw [hs.cell]; rfl
    have s1 : w1.cell? ⟨w.heap.size, 1, none⟩ = some (.int .i64 b') := by rw [hs.cell]; rfl
    have s2 : w1.cell? ⟨w.heap.size, 2, none⟩ = some (.int .i64 c') := by rw [hs.cell]; rfl
    have HC := Lib.hid (below_ch (below_step hB.out b1) (S := fun k => k = g))
    clear hs hS hK hB b1
    go_wp2_with fail
    refine (C2.out _ hk).mono ?_; rintro e w2 ⟨rfl, k2, c2⟩
    go_wp2
    go_ret
    exact ⟨rfl, k2, HC.out.trans c2 (fun k _ h => h)⟩
def heE (W a' b' c' : Int) : Int := if stB a' b' c' then (if 60000 < a' - W then 8 else 0) else 4
theorem hear2_any (W a b c a' b' c' : Int) (hW : wallB W) (w : World) (g : Nat) (h : Ck w g W a b c) :
    Calls Try.prog 34 #[gp g, stV a' b' c'] w fun e w' => e = .returned (.int .i64 (heE W a' b' c')) ∧ Ck w' g W (if heE W a' b' c' = 0 then hlA a b a' b' else a) (if heE W a' b' c' = 0 then hlC a b a' b' else b) c ∧ Ch (fun k => k = g) w w' := by
  have C1 := Lib.hid (fun w => cright_any a' b' c' w)
  have C2 := Lib.hid (fun w h => hear_any W a b c a' b' c' w g h)
  have hq : stB a' b' c' = true → 0 ≤ a' ∧ a' ≤ 4398046511104 := by
    intro hb
    simp [stB, inB] at hb
    omega
  unfold heE
  unfold wallB at hW
  generalize stB a' b' c' = q at *
  have hg := h.lt
  have hB := Lib.hid ((Below.refl w.heap.size w).alloc (Nat.le_refl _) (.cells #[.int .i64 a', .int .i64 b', .int .i64 c'] 43))
  have hS := Lib.hid (Whole.new w 43 #[.int .i64 a', .int .i64 b', .int .i64 c'])
  have hK := Lib.hid (show Ck _ g W a b c from Whole.alloc h (.cells #[.int .i64 a', .int .i64 b', .int .i64 c'] 43))
  clear h
  unfold gp stV at *
  cases q
  · simp only [Bool.false_eq_true, if_false, show ((4 : Int) = 0) = False from by simp]
    clear hW hq
    go_enter Try.func34, Try.ntmps34
    go_wp2_with fail
    refine (C1.out _).mono ?_; rintro e w1 ⟨rfl, b1⟩
    go_wp2
    go_ret
    exact ⟨rfl, hK.out.below b1 hK.out.lt, below_ch (below_step hB.out b1)⟩
  · have hq2 := hq rfl
    have e1 : IntKind.i64.wrap (a' - W) = a' - W := IntWalk.i64_in _ (by omega)
    clear hq hW hq2
    by_cases hx : 60000 < a' - W
    · simp only [hx, if_true, show ((8 : Int) = 0) = False from by simp, if_false]
      go_enter Try.func34, Try.ntmps34
      go_wp2_with fail
      refine (C1.out _).mono ?_; rintro e w1 ⟨rfl, b1⟩
      have hk : Ck w1 g W a b c := hK.out.below b1 hK.out.lt
      have hs := hS.out.below b1 hS.out.lt
      have s0 : w1.cell? ⟨w.heap.size, 0, none⟩ = some (.int .i64 a') := by rw [hs.cell]; rfl
      have k0 : w1.cell? ⟨g, 0, none⟩ = some (.int .i64 W) := by rw [Whole.cell hk]; rfl
      have HC := Lib.hid (below_ch (below_step hB.out b1) (S := fun k => k = g))
      clear hs hS hK hB b1
      go_wp2_with fail
      go_quiet (fail)
      go_wp2
      go_ret
      exact ⟨rfl, Whole.drewN hk nq, HC.out.drewN nq⟩
    · simp only [hx, if_true, if_false]
      go_enter Try.func34, Try.ntmps34
      go_wp2_with fail
      refine (C1.out _).mono ?_; rintro e w1 ⟨rfl, b1⟩
      have hk : Ck w1 g W a b c := hK.out.below b1 hK.out.lt
      have hs := hS.out.below b1 hS.out.lt
      have s0 : w1.cell? ⟨w.heap.size, 0, none⟩ = some (.int .i64 a') := by rw [hs.cell]; rfl
      have k0 : w1.cell? ⟨g, 0, none⟩ = some (.int .i64 W) := by rw [Whole.cell hk]; rfl
      have HC := Lib.hid (below_ch (below_step hB.out b1) (S := fun k => k = g))
      have HS := Lib.hid hs
      clear hs hS hK hB b1
      go_wp2_with fail
      go_quiet (fail)
      have hk2 : Ck (w1.drewN nq) g W a b c := Whole.drewN hk nq
      have hs2 := HS.out.drewN nq
      have hc2 := Lib.hid (HC.out.drewN nq)
      clear hk HS HC s0 k0
      generalize w1.drewN nq = w2 at *
      have s0 : w2.cell? ⟨w.heap.size, 0, none⟩ = some (.int .i64 a') := by rw [hs2.cell]; rfl
      have s1 : w2.cell? ⟨w.heap.size, 1, none⟩ = some (.int .i64 b') := by rw [hs2.cell]; rfl
      have s2 : w2.cell? ⟨w.heap.size, 2, none⟩ = some (.int .i64 c') := by rw [hs2.cell]; rfl
      clear hs2
      go_wp2_with fail
      refine (C2.out _ hk2).mono ?_; rintro e w2 ⟨rfl, k2, c2⟩
      go_wp2
      go_ret
      exact ⟨rfl, k2, hc2.out.trans c2 (fun k _ h => h)⟩
def nxA (W a b c : Int) : Int := if (pkV W a b c).2.2.2 = 0 then (pkV W a b c).1 else a
def nxC (W a b c : Int) : Int := if (pkV W a b c).2.2.2 = 0 then (pkV W a b c).2.1 else b
theorem pk_dev {W a b c : Int} (h : (pkV W a b c).2.2.2 = 0) : (pkV W a b c).2.2.1 = c := by
  obtain ⟨h1, hp⟩ | ⟨h1, h2, hp⟩ | ⟨h1, h2, hp⟩ := pk_cases W a b c <;> rw [hp] at h ⊢ <;> simp at h
theorem cnext_any (W a b c : Int) (hb : 0 ≤ b ∧ b ≤ 65535) (w : World) (g : Nat) (h : Ck w g W a b c) :
    Calls Try.prog 32 #[gp g] w fun e w' => e = .returned (.tuple #[stV (pkV W a b c).1 (pkV W a b c).2.1 (pkV W a b c).2.2.1, .int .i64 (pkV W a b c).2.2.2]) ∧ Ck w' g W (nxA W a b c) (nxC W a b c) c ∧ Ch (fun k => k = g) w w' := by
  have C1 := Lib.hid (fun w h => peek_any W a b c hb w g h)
  have hd := pk_dev (W := W) (a := a) (b := b) (c := c)
  unfold nxA nxC
  generalize pkV W a b c = P at *
  obtain ⟨pa, pb, pc, pe⟩ := P
  simp only at *
  have hg := h.lt
  have hR := Lib.hid (Whole.new w 43 #[.int .i64 0, .int .i64 0, .int .i64 0])
  have hB := Lib.hid ((Below.refl w.heap.size w).alloc (Nat.le_refl _) (.cells #[.int .i64 0, .int .i64 0, .int .i64 0] 43))
  have hK : Ck (w.alloc (.cells #[.int .i64 0, .int .i64 0, .int .i64 0] 43)) g W a b c := Whole.alloc h _
  clear h hb
  unfold stV at *
  by_cases he : pe = 0
  · subst he
    have hd2 := hd rfl
    subst hd2
    simp only [if_true]
    unfold gp at *
    go_enter Try.func32, Try.ntmps32
    go_wp2_with fail
    refine (C1.out _ hK).mono ?_; rintro e w1 ⟨rfl, b1⟩
    have k1 := Lib.hid ((hK.below b1 hK.lt).alloc (.cells #[.int .i64 pa, .int .i64 pb, .int .i64 pc] 43))
    have r1 := Lib.hid ((hR.out.below b1 hR.out.lt).alloc (.cells #[.int .i64 pa, .int .i64 pb, .int .i64 pc] 43))
    have s1 := Lib.hid (Whole.new w1 43 #[.int .i64 pa, .int .i64 pb, .int .i64 pc])
    have B1 := Lib.hid (below_step hB.out (b1.alloc b1.size (.cells #[.int .i64 pa, .int .i64 pb, .int .i64 pc] 43)))
    have hsz : w.heap.size < w1.heap.size := by have := b1.size; simp at this; omega
    clear hK hR hB b1 C1
    go_upto_region 2 with (fail)
    generalize (w1.alloc (.cells #[.int .i64 pa, .int .i64 pb, .int .i64 pc] 43)) = W2 at *
    have k2 := k1.out
    have r2 := r1.out
    have s2 := s1.out
    generalize w1.heap.size = m at *
    have q1 : W2.cell? ⟨m, 0, none⟩ = some (.int .i64 pa) := by rw [s2.cell]; rfl
    have q2 : W2.cell? ⟨m, 1, none⟩ = some (.int .i64 pb) := by rw [s2.cell]; rfl
    have q3 : W2.cell? ⟨m, 2, none⟩ = some (.int .i64 pc) := by rw [s2.cell]; rfl
    have v1 : W2.cell? ⟨g, 1, none⟩ = some (.int .i64 a) := by rw [k2.cell]; rfl
    have v2 : W2.cell? ⟨g, 2, none⟩ = some (.int .i64 b) := by rw [k2.cell]; rfl
    have v3 : W2.cell? ⟨g, 3, none⟩ = some (.int .i64 pc) := by rw [k2.cell]; rfl
    have u1 : W2.cell? ⟨w.heap.size, 0, none⟩ = some (.int .i64 0) := by rw [r2.cell]; rfl
    have u2 : W2.cell? ⟨w.heap.size, 1, none⟩ = some (.int .i64 0) := by rw [r2.cell]; rfl
    have u3 : W2.cell? ⟨w.heap.size, 2, none⟩ = some (.int .i64 0) := by rw [r2.cell]; rfl
    have f1 := k2.free 1
    have f2 := k2.free 2
    have f3 := k2.free 3
    have j1 := r2.free 0
    have j2 := r2.free 1
    have j3 := r2.free 2
    have hmg : m ≠ g := by omega
    have hng : w.heap.size ≠ g := by omega
    have hgn : g ≠ w.heap.size := by omega
    have hmn : m ≠ w.heap.size := by omega
    have KF := Lib.hid ((((((k2.set_ 1 (.int .i64 pa)).set_ 2 (.int .i64 pb)).set_ 3 (.int .i64 pc)).far (p := ⟨w.heap.size, 0, none⟩) hgn (.int .i64 pa)).far (p := ⟨w.heap.size, 1, none⟩) hgn (.int .i64 pb)).far (p := ⟨w.heap.size, 2, none⟩) hgn (.int .i64 pc))
    have RF := Lib.hid ((((((r2.far (p := ⟨g, 1, none⟩) hng (.int .i64 pa)).far (p := ⟨g, 2, none⟩) hng (.int .i64 pb)).far (p := ⟨g, 3, none⟩) hng (.int .i64 pc)).set_ 0 (.int .i64 pa)).set_ 1 (.int .i64 pb)).set_ 2 (.int .i64 pc))
    clear k2 r2 s2 k1 r1 s1
    go_wp2
    have kf := KF.out
    have rf := RF.out
    clear KF RF
    have CF : Ch (fun k => k = g) w ((((((W2.setCell ⟨g, 1, none⟩ (.int .i64 pa)).setCell ⟨g, 2, none⟩ (.int .i64 pb)).setCell ⟨g, 3, none⟩ (.int .i64 pc)).setCell ⟨w.heap.size, 0, none⟩ (.int .i64 pa)).setCell ⟨w.heap.size, 1, none⟩ (.int .i64 pb)).setCell ⟨w.heap.size, 2, none⟩ (.int .i64 pc)) := by
      refine Ch.trans (below_ch B1.out (S := fun k => k = g)) (((((Ch.set_ W2 ⟨g, 1, none⟩ (.int .i64 pa)).trans (Ch.set_ _ ⟨g, 2, none⟩ (.int .i64 pb)) (fun k _ h => h)).trans (Ch.set_ _ ⟨g, 3, none⟩ (.int .i64 pc)) (fun k _ h => h)).mono (S' := fun k => k = g ∨ k = w.heap.size) (fun k _ h => .inl h)).trans (((Ch.set_ _ ⟨w.heap.size, 0, none⟩ (.int .i64 pa)).trans (Ch.set_ _ ⟨w.heap.size, 1, none⟩ (.int .i64 pb)) (fun k _ h => h)).trans (Ch.set_ _ ⟨w.heap.size, 2, none⟩ (.int .i64 pc)) (fun k _ h => h)) (fun k _ h => .inr h)) (fun k hk h => ?_)
      rcases h with h | h
      · exact h
      · have h' : k = w.heap.size := h; omega
    generalize ((((((W2.setCell ⟨g, 1, none⟩ (.int .i64 pa)).setCell ⟨g, 2, none⟩ (.int .i64 pb)).setCell ⟨g, 3, none⟩ (.int .i64 pc)).setCell ⟨w.heap.size, 0, none⟩ (.int .i64 pa)).setCell ⟨w.heap.size, 1, none⟩ (.int .i64 pb)).setCell ⟨w.heap.size, 2, none⟩ (.int .i64 pc)) = W4 at *
    have x0 : W4.cell? ⟨w.heap.size, 0, none⟩ = some (.int .i64 pa) := by rw [rf.cell]; rfl
    have x1 : W4.cell? ⟨w.heap.size, 1, none⟩ = some (.int .i64 pb) := by rw [rf.cell]; rfl
    have x2 : W4.cell? ⟨w.heap.size, 2, none⟩ = some (.int .i64 pc) := by rw [rf.cell]; rfl
    exact bodyPost_ret (v := .tuple #[.agg #[.int .i64 pa, .int .i64 pb, .int .i64 pc], .int .i64 0]) (by simp [results, Try.results32, go_sem, x0, x1, x2]) rfl ⟨rfl, kf, CF⟩
  · have te : (pe == 0) = false := by simp [he]
    simp only [he, if_false]
    clear hd he
    unfold gp at *
    go_enter Try.func32, Try.ntmps32
    go_wp2_with fail
    refine (C1.out _ hK).mono ?_; rintro e w1 ⟨rfl, b1⟩
    have k1 := Lib.hid ((hK.below b1 hK.lt).alloc (.cells #[.int .i64 pa, .int .i64 pb, .int .i64 pc] 43))
    have r1 := Lib.hid ((hR.out.below b1 hR.out.lt).alloc (.cells #[.int .i64 pa, .int .i64 pb, .int .i64 pc] 43))
    have s1 := Lib.hid (Whole.new w1 43 #[.int .i64 pa, .int .i64 pb, .int .i64 pc])
    have B1 := Lib.hid (below_step hB.out (b1.alloc b1.size (.cells #[.int .i64 pa, .int .i64 pb, .int .i64 pc] 43)))
    have hsz : w.heap.size < w1.heap.size := by have := b1.size; simp at this; omega
    clear hK hR hB b1 C1
    go_upto_region 2 with (fail)
    generalize (w1.alloc (.cells #[.int .i64 pa, .int .i64 pb, .int .i64 pc] 43)) = W2 at *
    have k2 := k1.out
    have r2 := r1.out
    have s2 := s1.out
    generalize w1.heap.size = m at *
    have q1 : W2.cell? ⟨m, 0, none⟩ = some (.int .i64 pa) := by rw [s2.cell]; rfl
    have q2 : W2.cell? ⟨m, 1, none⟩ = some (.int .i64 pb) := by rw [s2.cell]; rfl
    have q3 : W2.cell? ⟨m, 2, none⟩ = some (.int .i64 pc) := by rw [s2.cell]; rfl
    have u1 : W2.cell? ⟨w.heap.size, 0, none⟩ = some (.int .i64 0) := by rw [r2.cell]; rfl
    have u2 : W2.cell? ⟨w.heap.size, 1, none⟩ = some (.int .i64 0) := by rw [r2.cell]; rfl
    have u3 : W2.cell? ⟨w.heap.size, 2, none⟩ = some (.int .i64 0) := by rw [r2.cell]; rfl
    have j1 := r2.free 0
    have j2 := r2.free 1
    have j3 := r2.free 2
    have hmn : m ≠ w.heap.size := by omega
    have hgn : g ≠ w.heap.size := by omega
    have KF := Lib.hid (((k2.far (p := ⟨w.heap.size, 0, none⟩) hgn (.int .i64 pa)).far (p := ⟨w.heap.size, 1, none⟩) hgn (.int .i64 pb)).far (p := ⟨w.heap.size, 2, none⟩) hgn (.int .i64 pc))
    have RF := Lib.hid (((r2.set_ 0 (.int .i64 pa)).set_ 1 (.int .i64 pb)).set_ 2 (.int .i64 pc))
    clear k2 r2 s2 k1 r1 s1
    go_wp2
    have kf := KF.out
    have rf := RF.out
    clear KF RF
    have BF : Below w.heap.size w (((W2.setCell ⟨w.heap.size, 0, none⟩ (.int .i64 pa)).setCell ⟨w.heap.size, 1, none⟩ (.int .i64 pb)).setCell ⟨w.heap.size, 2, none⟩ (.int .i64 pc)) := ((B1.out.setCell (p := ⟨w.heap.size, 0, none⟩) (Nat.le_refl _) (.int .i64 pa)).setCell (p := ⟨w.heap.size, 1, none⟩) (Nat.le_refl _) (.int .i64 pb)).setCell (p := ⟨w.heap.size, 2, none⟩) (Nat.le_refl _) (.int .i64 pc)
    generalize (((W2.setCell ⟨w.heap.size, 0, none⟩ (.int .i64 pa)).setCell ⟨w.heap.size, 1, none⟩ (.int .i64 pb)).setCell ⟨w.heap.size, 2, none⟩ (.int .i64 pc)) = W4 at *
    have x0 : W4.cell? ⟨w.heap.size, 0, none⟩ = some (.int .i64 pa) := by rw [rf.cell]; rfl
    have x1 : W4.cell? ⟨w.heap.size, 1, none⟩ = some (.int .i64 pb) := by rw [rf.cell]; rfl
    have x2 : W4.cell? ⟨w.heap.size, 2, none⟩ = some (.int .i64 pc) := by rw [rf.cell]; rfl
    exact bodyPost_ret (v := .tuple #[.agg #[.int .i64 pa, .int .i64 pb, .int .i64 pc], .int .i64 pe]) (by simp [results, Try.results32, go_sem, x0, x1, x2]) rfl ⟨rfl, kf, below_ch BF⟩
end Go.Proofs.Ytjlmbdhjpjbneaa
