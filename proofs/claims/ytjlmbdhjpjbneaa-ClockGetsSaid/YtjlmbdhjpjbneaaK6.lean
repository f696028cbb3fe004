/- Layer 19 (clock): a step of the law, kind by kind. -/
import Derived.Test.YtjlmbdhjpjbneaaK5
namespace Go.Proofs.Ytjlmbdhjpjbneaa
open Go.RowKit
set_option linter.unusedVariables false
set_option maxRecDepth 100000

theorem ch_far4 {w W : World} {g p : Nat} (h : Ch (fun k => k = g) w W) (hp : w.heap.size ≤ p) (u0 u1 u2 u3 : Value) :
    Ch (fun k => k = g) w ((((W.setCell ⟨p, 0, none⟩ u0).setCell ⟨p, 1, none⟩ u1).setCell ⟨p, 2, none⟩ u2).setCell ⟨p, 3, none⟩ u3) := by
  refine (h.mono (S' := fun k => k = g) (fun k _ h => h)).trans ((((Ch.set_ W ⟨p, 0, none⟩ u0).trans (Ch.set_ _ ⟨p, 1, none⟩ u1) (fun k _ h => h)).trans (Ch.set_ _ ⟨p, 2, none⟩ u2) (fun k _ h => h)).trans (Ch.set_ _ ⟨p, 3, none⟩ u3) (fun k _ h => h)) (fun k hk h => ?_)
  have h' : k = p := h
  omega
def spV (k m x y z : Int) : Value := .agg #[.int .i64 k, .int .i64 m, .int .i64 x, .int .i64 y, .int .i64 z]
set_option maxHeartbeats 1000000 in
theorem step1_any (W a b c m x y z : Int) (hW : wallB W) (hm : i64B m) (w : World) (g : Nat) (h : Ck w g W a b c) :
    Calls Try.prog 36 #[gp g, ckV W a b c, spV 1 m x y z] w fun e w' => e = .returned (.tuple #[ckV (tickW W m) a b c, .bool true]) ∧ Ck w' g (tickW W m) a b c ∧ Ch (fun k => k = g) w w' := by
  have C1 := Lib.hid (fun w => rtick_any W a b c m hW hm w)
  have C2 := Lib.hid (fun w h => tick_any W a b c m hW hm w g h)
  clear hW hm
  generalize tickW W m = W' at *
  generalize tickE W m = E at *
  have hg := h.lt
  have hX := Lib.hid (box3_new w 53 45 53 #[.int .i64 W, .int .i64 a, .int .i64 b, .int .i64 c] #[.int .i64 1, .int .i64 m, .int .i64 x, .int .i64 y, .int .i64 z] #[.int .i64 0, .int .i64 0, .int .i64 0, .int .i64 0])
  unfold ckV spV gp at *
  try unfold stV at *
  go_enter Try.func36, Try.ntmps36
  go_wp2_with fail
  generalize hW0 : (((w.alloc (.cells #[.int .i64 W, .int .i64 a, .int .i64 b, .int .i64 c] 53)).alloc (.cells #[.int .i64 1, .int .i64 m, .int .i64 x, .int .i64 y, .int .i64 z] 45)).alloc (.cells #[.int .i64 0, .int .i64 0, .int .i64 0, .int .i64 0] 53)) = W0 at *
  have H := Lib.hid h
  clear h
  generalize hn : w.heap.size = n at *
  clear hW0
  refine (C1.out _).mono ?_; rintro e w1 ⟨rfl, b1⟩
  have B2 := Lib.hid ((hX.out.step b1).step ((Below.refl _ _).alloc (Nat.le_refl _) (.cells #[.int .i64 W', .int .i64 a, .int .i64 b, .int .i64 c] 53)))
  have V2 := Lib.hid (Whole.new w1 53 #[.int .i64 W', .int .i64 a, .int .i64 b, .int .i64 c])
  have hm1 : n + 3 ≤ w1.heap.size := (hX.out.step b1).2.1
  clear b1 hX
  go_upto_region 4 with (fail)
  generalize (w1.alloc (.cells #[.int .i64 W', .int .i64 a, .int .i64 b, .int .i64 c] 53)) = w2 at *
  generalize w1.heap.size = r at *
  obtain ⟨hb, hs, k, s, zz⟩ := B2.out
  have v := V2.out
  have hk : Ck w2 g W a b c := Whole.below H.out hb (by omega)
  have y1 : w2.cell? ⟨n + 1, 1, none⟩ = some (.int .i64 m) := by rw [s.cell]; rfl
  have v0 : w2.cell? ⟨r, 0, none⟩ = some (.int .i64 W') := (by rw [v.cell]; rfl)
  have v1 : w2.cell? ⟨r, 1, none⟩ = some (.int .i64 a) := (by rw [v.cell]; rfl)
  have v2 : w2.cell? ⟨r, 2, none⟩ = some (.int .i64 b) := (by rw [v.cell]; rfl)
  have v3 : w2.cell? ⟨r, 3, none⟩ = some (.int .i64 c) := (by rw [v.cell]; rfl)
  have z0 : w2.cell? ⟨n + 2, 0, none⟩ = some (.int .i64 0) := (by rw [zz.cell]; rfl)
  have z1 : w2.cell? ⟨n + 2, 1, none⟩ = some (.int .i64 0) := (by rw [zz.cell]; rfl)
  have z2 : w2.cell? ⟨n + 2, 2, none⟩ = some (.int .i64 0) := (by rw [zz.cell]; rfl)
  have z3 : w2.cell? ⟨n + 2, 3, none⟩ = some (.int .i64 0) := (by rw [zz.cell]; rfl)
  have j0 := zz.free 0
  have j1 := zz.free 1
  have j2 := zz.free 2
  have j3 := zz.free 3
  have hng : n + 2 ≠ g := by omega
  have hgn : g ≠ n + 2 := by omega
  have hrg : r ≠ g := by omega
  have V := Lib.hid v.drew
  have ZZ := Lib.hid zz.drew
  have HB := Lib.hid hb.drew
  have HK := Lib.hid (show Ck w2.drew g W a b c from Whole.drew hk)
  clear k s zz v hk hb
  go_region_with ((go_at_call 31; refine (C2.out _ HK.out).mono ?_; rintro e w3 ⟨rfl, hk3, hc3⟩; have v3 := V.out.ch hc3 hrg; have z3 := ZZ.out.ch hc3 hng; have q0 : w3.cell? ⟨r, 0, none⟩ = some (.int .i64 W') := (by rw [v3.cell]; rfl); have q1 : w3.cell? ⟨r, 1, none⟩ = some (.int .i64 a) := (by rw [v3.cell]; rfl); have q2 : w3.cell? ⟨r, 2, none⟩ = some (.int .i64 b) := (by rw [v3.cell]; rfl); have q3 : w3.cell? ⟨r, 3, none⟩ = some (.int .i64 c) := (by rw [v3.cell]; rfl); have x0 : w3.cell? ⟨n + 2, 0, none⟩ = some (.int .i64 0) := (by rw [z3.cell]; rfl); have x1 : w3.cell? ⟨n + 2, 1, none⟩ = some (.int .i64 0) := (by rw [z3.cell]; rfl); have x2 : w3.cell? ⟨n + 2, 2, none⟩ = some (.int .i64 0) := (by rw [z3.cell]; rfl); have x3 : w3.cell? ⟨n + 2, 3, none⟩ = some (.int .i64 0) := (by rw [z3.cell]; rfl); have f0 := z3.free 0; have f1 := z3.free 1; have f2 := z3.free 2; have f3 := z3.free 3; have HZ3 := Lib.hid z3; have HK3 := Lib.hid hk3; have HC3 := Lib.hid ((below_ch (hn.symm ▸ HB.out) (S := fun k => k = g)).trans hc3 (fun k _ h => h)); clear v3 z3 hk3 hc3))
  all_goals
    go_wp2
    have hz := ((((HZ3.out.set_ 0 (.int .i64 W')).set_ 1 (.int .i64 a)).set_ 2 (.int .i64 b)).set_ 3 (.int .i64 c))
    have kf : Ck _ g (W') (a) (b) (c) := ((((HK3.out.far (p := ⟨n + 2, 0, none⟩) hgn (.int .i64 W')).far (p := ⟨n + 2, 1, none⟩) hgn (.int .i64 a)).far (p := ⟨n + 2, 2, none⟩) hgn (.int .i64 b)).far (p := ⟨n + 2, 3, none⟩) hgn (.int .i64 c))
    have cf := ch_far4 (p := n + 2) HC3.out (by omega) (.int .i64 W') (.int .i64 a) (.int .i64 b) (.int .i64 c)
    generalize ((((w3.setCell ⟨n + 2, 0, none⟩ (.int .i64 W')).setCell ⟨n + 2, 1, none⟩ (.int .i64 a)).setCell ⟨n + 2, 2, none⟩ (.int .i64 b)).setCell ⟨n + 2, 3, none⟩ (.int .i64 c)) = W9 at *
    have x0 : W9.cell? ⟨n + 2, 0, none⟩ = some (.int .i64 W') := (by rw [hz.cell]; rfl)
    have x1 : W9.cell? ⟨n + 2, 1, none⟩ = some (.int .i64 a) := (by rw [hz.cell]; rfl)
    have x2 : W9.cell? ⟨n + 2, 2, none⟩ = some (.int .i64 b) := (by rw [hz.cell]; rfl)
    have x3 : W9.cell? ⟨n + 2, 3, none⟩ = some (.int .i64 c) := (by rw [hz.cell]; rfl)
    exact bodyPost_ret (v := .tuple #[.agg #[.int .i64 W', .int .i64 a, .int .i64 b, .int .i64 c], .bool true]) (by simp [results, Try.results36, go_sem, x0, x1, x2, x3]) rfl ⟨rfl, kf, cf⟩
set_option maxHeartbeats 1000000 in
theorem step3_any (W a b c m x y z : Int) (hW : wallB W) (w : World) (g : Nat) (h : Ck w g W a b c) :
    Calls Try.prog 36 #[gp g, ckV W a b c, spV 3 m x y z] w fun e w' => e = .returned (.tuple #[ckV W (if heE W x y z = 0 then hlA a b x y else a) (if heE W x y z = 0 then hlC a b x y else b) c, .bool true]) ∧ Ck w' g W (if heE W x y z = 0 then hlA a b x y else a) (if heE W x y z = 0 then hlC a b x y else b) c ∧ Ch (fun k => k = g) w w' := by
  have C1 := Lib.hid (fun w => rhear_any W a b c x y z hW w)
  have C2 := Lib.hid (fun w h => hear2_any W a b c x y z hW w g h)
  clear hW
  generalize heE W x y z = E at *
  generalize (if E = 0 then hlA a b x y else a) = A' at *
  generalize (if E = 0 then hlC a b x y else b) = B' at *
  have hg := h.lt
  have hX := Lib.hid (box3_new w 53 45 53 #[.int .i64 W, .int .i64 a, .int .i64 b, .int .i64 c] #[.int .i64 3, .int .i64 m, .int .i64 x, .int .i64 y, .int .i64 z] #[.int .i64 0, .int .i64 0, .int .i64 0, .int .i64 0])
  unfold ckV spV gp at *
  try unfold stV at *
  go_enter Try.func36, Try.ntmps36
  go_wp2_with fail
  generalize hW0 : (((w.alloc (.cells #[.int .i64 W, .int .i64 a, .int .i64 b, .int .i64 c] 53)).alloc (.cells #[.int .i64 3, .int .i64 m, .int .i64 x, .int .i64 y, .int .i64 z] 45)).alloc (.cells #[.int .i64 0, .int .i64 0, .int .i64 0, .int .i64 0] 53)) = W0 at *
  have H := Lib.hid h
  clear h
  generalize hn : w.heap.size = n at *
  clear hW0
  refine (C1.out _).mono ?_; rintro e w1 ⟨rfl, b1⟩
  have B2 := Lib.hid ((hX.out.step b1).step ((Below.refl _ _).alloc (Nat.le_refl _) (.cells #[.int .i64 W, .int .i64 A', .int .i64 B', .int .i64 c] 53)))
  have V2 := Lib.hid (Whole.new w1 53 #[.int .i64 W, .int .i64 A', .int .i64 B', .int .i64 c])
  have hm1 : n + 3 ≤ w1.heap.size := (hX.out.step b1).2.1
  clear b1 hX
  go_upto_region 11 with (fail)
  generalize (w1.alloc (.cells #[.int .i64 W, .int .i64 A', .int .i64 B', .int .i64 c] 53)) = w2 at *
  generalize w1.heap.size = r at *
  obtain ⟨hb, hs, k, s, zz⟩ := B2.out
  have v := V2.out
  have hk : Ck w2 g W a b c := Whole.below H.out hb (by omega)
  have y2 : w2.cell? ⟨n + 1, 2, none⟩ = some (.int .i64 x) := by rw [s.cell]; rfl
  have y3 : w2.cell? ⟨n + 1, 3, none⟩ = some (.int .i64 y) := by rw [s.cell]; rfl
  have y4 : w2.cell? ⟨n + 1, 4, none⟩ = some (.int .i64 z) := by rw [s.cell]; rfl
  have v0 : w2.cell? ⟨r, 0, none⟩ = some (.int .i64 W) := (by rw [v.cell]; rfl)
  have v1 : w2.cell? ⟨r, 1, none⟩ = some (.int .i64 A') := (by rw [v.cell]; rfl)
  have v2 : w2.cell? ⟨r, 2, none⟩ = some (.int .i64 B') := (by rw [v.cell]; rfl)
  have v3 : w2.cell? ⟨r, 3, none⟩ = some (.int .i64 c) := (by rw [v.cell]; rfl)
  have z0 : w2.cell? ⟨n + 2, 0, none⟩ = some (.int .i64 0) := (by rw [zz.cell]; rfl)
  have z1 : w2.cell? ⟨n + 2, 1, none⟩ = some (.int .i64 0) := (by rw [zz.cell]; rfl)
  have z2 : w2.cell? ⟨n + 2, 2, none⟩ = some (.int .i64 0) := (by rw [zz.cell]; rfl)
  have z3 : w2.cell? ⟨n + 2, 3, none⟩ = some (.int .i64 0) := (by rw [zz.cell]; rfl)
  have j0 := zz.free 0
  have j1 := zz.free 1
  have j2 := zz.free 2
  have j3 := zz.free 3
  have hng : n + 2 ≠ g := by omega
  have hgn : g ≠ n + 2 := by omega
  have hrg : r ≠ g := by omega
  have V := Lib.hid v.drew
  have ZZ := Lib.hid zz.drew
  have HB := Lib.hid hb.drew
  have HK := Lib.hid (show Ck w2.drew g W a b c from Whole.drew hk)
  clear k s zz v hk hb
  go_region_with ((go_at_call 34; refine (C2.out _ HK.out).mono ?_; rintro e w3 ⟨rfl, hk3, hc3⟩; have v3 := V.out.ch hc3 hrg; have z3 := ZZ.out.ch hc3 hng; have q0 : w3.cell? ⟨r, 0, none⟩ = some (.int .i64 W) := (by rw [v3.cell]; rfl); have q1 : w3.cell? ⟨r, 1, none⟩ = some (.int .i64 A') := (by rw [v3.cell]; rfl); have q2 : w3.cell? ⟨r, 2, none⟩ = some (.int .i64 B') := (by rw [v3.cell]; rfl); have q3 : w3.cell? ⟨r, 3, none⟩ = some (.int .i64 c) := (by rw [v3.cell]; rfl); have x0 : w3.cell? ⟨n + 2, 0, none⟩ = some (.int .i64 0) := (by rw [z3.cell]; rfl); have x1 : w3.cell? ⟨n + 2, 1, none⟩ = some (.int .i64 0) := (by rw [z3.cell]; rfl); have x2 : w3.cell? ⟨n + 2, 2, none⟩ = some (.int .i64 0) := (by rw [z3.cell]; rfl); have x3 : w3.cell? ⟨n + 2, 3, none⟩ = some (.int .i64 0) := (by rw [z3.cell]; rfl); have f0 := z3.free 0; have f1 := z3.free 1; have f2 := z3.free 2; have f3 := z3.free 3; have HZ3 := Lib.hid z3; have HK3 := Lib.hid hk3; have HC3 := Lib.hid ((below_ch (hn.symm ▸ HB.out) (S := fun k => k = g)).trans hc3 (fun k _ h => h)); clear v3 z3 hk3 hc3))
  all_goals
    go_wp2
    have hz := ((((HZ3.out.set_ 0 (.int .i64 W)).set_ 1 (.int .i64 A')).set_ 2 (.int .i64 B')).set_ 3 (.int .i64 c))
    have kf : Ck _ g (W) (A') (B') (c) := ((((HK3.out.far (p := ⟨n + 2, 0, none⟩) hgn (.int .i64 W)).far (p := ⟨n + 2, 1, none⟩) hgn (.int .i64 A')).far (p := ⟨n + 2, 2, none⟩) hgn (.int .i64 B')).far (p := ⟨n + 2, 3, none⟩) hgn (.int .i64 c))
    have cf := ch_far4 (p := n + 2) HC3.out (by omega) (.int .i64 W) (.int .i64 A') (.int .i64 B') (.int .i64 c)
    generalize ((((w3.setCell ⟨n + 2, 0, none⟩ (.int .i64 W)).setCell ⟨n + 2, 1, none⟩ (.int .i64 A')).setCell ⟨n + 2, 2, none⟩ (.int .i64 B')).setCell ⟨n + 2, 3, none⟩ (.int .i64 c)) = W9 at *
    have x0 : W9.cell? ⟨n + 2, 0, none⟩ = some (.int .i64 W) := (by rw [hz.cell]; rfl)
    have x1 : W9.cell? ⟨n + 2, 1, none⟩ = some (.int .i64 A') := (by rw [hz.cell]; rfl)
    have x2 : W9.cell? ⟨n + 2, 2, none⟩ = some (.int .i64 B') := (by rw [hz.cell]; rfl)
    have x3 : W9.cell? ⟨n + 2, 3, none⟩ = some (.int .i64 c) := (by rw [hz.cell]; rfl)
    exact bodyPost_ret (v := .tuple #[.agg #[.int .i64 W, .int .i64 A', .int .i64 B', .int .i64 c], .bool true]) (by simp [results, Try.results36, go_sem, x0, x1, x2, x3]) rfl ⟨rfl, kf, cf⟩
set_option maxHeartbeats 1000000 in
theorem step4_any (W a b c m x y z : Int)  (w : World) (g : Nat) (h : Ck w g W a b c) :
    Calls Try.prog 36 #[gp g, ckV W a b c, spV 4 m x y z] w fun e w' => e = .returned (.tuple #[ckV W (rsA a b x y z) (rsC a b x y z) c, .bool true]) ∧ Ck w' g W (rsA a b x y z) (rsC a b x y z) c ∧ Ch (fun k => k = g) w w' := by
  have C1 := Lib.hid (fun w => rrestore_any W a b c x y z w)
  have C2 := Lib.hid (fun w h => restore_any W a b c x y z w g h)
  generalize rsE x y z = E at *
  generalize rsA a b x y z = A' at *
  generalize rsC a b x y z = B' at *
  have hg := h.lt
  have hX := Lib.hid (box3_new w 53 45 53 #[.int .i64 W, .int .i64 a, .int .i64 b, .int .i64 c] #[.int .i64 4, .int .i64 m, .int .i64 x, .int .i64 y, .int .i64 z] #[.int .i64 0, .int .i64 0, .int .i64 0, .int .i64 0])
  unfold ckV spV gp at *
  try unfold stV at *
  go_enter Try.func36, Try.ntmps36
  go_wp2_with fail
  generalize hW0 : (((w.alloc (.cells #[.int .i64 W, .int .i64 a, .int .i64 b, .int .i64 c] 53)).alloc (.cells #[.int .i64 4, .int .i64 m, .int .i64 x, .int .i64 y, .int .i64 z] 45)).alloc (.cells #[.int .i64 0, .int .i64 0, .int .i64 0, .int .i64 0] 53)) = W0 at *
  have H := Lib.hid h
  clear h
  generalize hn : w.heap.size = n at *
  clear hW0
  refine (C1.out _).mono ?_; rintro e w1 ⟨rfl, b1⟩
  have B2 := Lib.hid ((hX.out.step b1).step ((Below.refl _ _).alloc (Nat.le_refl _) (.cells #[.int .i64 W, .int .i64 A', .int .i64 B', .int .i64 c] 53)))
  have V2 := Lib.hid (Whole.new w1 53 #[.int .i64 W, .int .i64 A', .int .i64 B', .int .i64 c])
  have hm1 : n + 3 ≤ w1.heap.size := (hX.out.step b1).2.1
  clear b1 hX
  go_upto_region 14 with (fail)
  generalize (w1.alloc (.cells #[.int .i64 W, .int .i64 A', .int .i64 B', .int .i64 c] 53)) = w2 at *
  generalize w1.heap.size = r at *
  obtain ⟨hb, hs, k, s, zz⟩ := B2.out
  have v := V2.out
  have hk : Ck w2 g W a b c := Whole.below H.out hb (by omega)
  have y2 : w2.cell? ⟨n + 1, 2, none⟩ = some (.int .i64 x) := by rw [s.cell]; rfl
  have y3 : w2.cell? ⟨n + 1, 3, none⟩ = some (.int .i64 y) := by rw [s.cell]; rfl
  have y4 : w2.cell? ⟨n + 1, 4, none⟩ = some (.int .i64 z) := by rw [s.cell]; rfl
  have v0 : w2.cell? ⟨r, 0, none⟩ = some (.int .i64 W) := (by rw [v.cell]; rfl)
  have v1 : w2.cell? ⟨r, 1, none⟩ = some (.int .i64 A') := (by rw [v.cell]; rfl)
  have v2 : w2.cell? ⟨r, 2, none⟩ = some (.int .i64 B') := (by rw [v.cell]; rfl)
  have v3 : w2.cell? ⟨r, 3, none⟩ = some (.int .i64 c) := (by rw [v.cell]; rfl)
  have z0 : w2.cell? ⟨n + 2, 0, none⟩ = some (.int .i64 0) := (by rw [zz.cell]; rfl)
  have z1 : w2.cell? ⟨n + 2, 1, none⟩ = some (.int .i64 0) := (by rw [zz.cell]; rfl)
  have z2 : w2.cell? ⟨n + 2, 2, none⟩ = some (.int .i64 0) := (by rw [zz.cell]; rfl)
  have z3 : w2.cell? ⟨n + 2, 3, none⟩ = some (.int .i64 0) := (by rw [zz.cell]; rfl)
  have j0 := zz.free 0
  have j1 := zz.free 1
  have j2 := zz.free 2
  have j3 := zz.free 3
  have hng : n + 2 ≠ g := by omega
  have hgn : g ≠ n + 2 := by omega
  have hrg : r ≠ g := by omega
  have V := Lib.hid v.drew
  have ZZ := Lib.hid zz.drew
  have HB := Lib.hid hb.drew
  have HK := Lib.hid (show Ck w2.drew g W a b c from Whole.drew hk)
  clear k s zz v hk hb
  go_region_with ((go_at_call 35; refine (C2.out _ HK.out).mono ?_; rintro e w3 ⟨rfl, hk3, hc3⟩; have v3 := V.out.ch hc3 hrg; have z3 := ZZ.out.ch hc3 hng; have q0 : w3.cell? ⟨r, 0, none⟩ = some (.int .i64 W) := (by rw [v3.cell]; rfl); have q1 : w3.cell? ⟨r, 1, none⟩ = some (.int .i64 A') := (by rw [v3.cell]; rfl); have q2 : w3.cell? ⟨r, 2, none⟩ = some (.int .i64 B') := (by rw [v3.cell]; rfl); have q3 : w3.cell? ⟨r, 3, none⟩ = some (.int .i64 c) := (by rw [v3.cell]; rfl); have x0 : w3.cell? ⟨n + 2, 0, none⟩ = some (.int .i64 0) := (by rw [z3.cell]; rfl); have x1 : w3.cell? ⟨n + 2, 1, none⟩ = some (.int .i64 0) := (by rw [z3.cell]; rfl); have x2 : w3.cell? ⟨n + 2, 2, none⟩ = some (.int .i64 0) := (by rw [z3.cell]; rfl); have x3 : w3.cell? ⟨n + 2, 3, none⟩ = some (.int .i64 0) := (by rw [z3.cell]; rfl); have f0 := z3.free 0; have f1 := z3.free 1; have f2 := z3.free 2; have f3 := z3.free 3; have HZ3 := Lib.hid z3; have HK3 := Lib.hid hk3; have HC3 := Lib.hid ((below_ch (hn.symm ▸ HB.out) (S := fun k => k = g)).trans hc3 (fun k _ h => h)); clear v3 z3 hk3 hc3))
  all_goals
    go_wp2
    have hz := ((((HZ3.out.set_ 0 (.int .i64 W)).set_ 1 (.int .i64 A')).set_ 2 (.int .i64 B')).set_ 3 (.int .i64 c))
    have kf : Ck _ g (W) (A') (B') (c) := ((((HK3.out.far (p := ⟨n + 2, 0, none⟩) hgn (.int .i64 W)).far (p := ⟨n + 2, 1, none⟩) hgn (.int .i64 A')).far (p := ⟨n + 2, 2, none⟩) hgn (.int .i64 B')).far (p := ⟨n + 2, 3, none⟩) hgn (.int .i64 c))
    have cf := ch_far4 (p := n + 2) HC3.out (by omega) (.int .i64 W) (.int .i64 A') (.int .i64 B') (.int .i64 c)
    generalize ((((w3.setCell ⟨n + 2, 0, none⟩ (.int .i64 W)).setCell ⟨n + 2, 1, none⟩ (.int .i64 A')).setCell ⟨n + 2, 2, none⟩ (.int .i64 B')).setCell ⟨n + 2, 3, none⟩ (.int .i64 c)) = W9 at *
    have x0 : W9.cell? ⟨n + 2, 0, none⟩ = some (.int .i64 W) := (by rw [hz.cell]; rfl)
    have x1 : W9.cell? ⟨n + 2, 1, none⟩ = some (.int .i64 A') := (by rw [hz.cell]; rfl)
    have x2 : W9.cell? ⟨n + 2, 2, none⟩ = some (.int .i64 B') := (by rw [hz.cell]; rfl)
    have x3 : W9.cell? ⟨n + 2, 3, none⟩ = some (.int .i64 c) := (by rw [hz.cell]; rfl)
    exact bodyPost_ret (v := .tuple #[.agg #[.int .i64 W, .int .i64 A', .int .i64 B', .int .i64 c], .bool true]) (by simp [results, Try.results36, go_sem, x0, x1, x2, x3]) rfl ⟨rfl, kf, cf⟩
set_option maxHeartbeats 1000000 in
theorem step2_any (W a b c m x y z : Int) (hb : 0 ≤ b ∧ b ≤ 65535) (w : World) (g : Nat) (h : Ck w g W a b c) :
    Calls Try.prog 36 #[gp g, ckV W a b c, spV 2 m x y z] w fun e w' => e = .returned (.tuple #[ckV W (nxA W a b c) (nxC W a b c) c, .bool true]) ∧ Ck w' g W (nxA W a b c) (nxC W a b c) c ∧ Ch (fun k => k = g) w w' := by
  have C1 := Lib.hid (fun w => rnext_any W a b c hb w)
  have C2 := Lib.hid (fun w h => cnext_any W a b c hb w g h)
  clear hb
  generalize nxA W a b c = A' at *
  generalize nxC W a b c = B' at *
  generalize pkV W a b c = P at *
  obtain ⟨pa, pb, pc, pe⟩ := P
  simp only at *
  have hg := h.lt
  have hX := Lib.hid (box3_new w 53 45 53 #[.int .i64 W, .int .i64 a, .int .i64 b, .int .i64 c] #[.int .i64 2, .int .i64 m, .int .i64 x, .int .i64 y, .int .i64 z] #[.int .i64 0, .int .i64 0, .int .i64 0, .int .i64 0])
  unfold ckV spV gp at *
  try unfold stV at *
  go_enter Try.func36, Try.ntmps36
  go_wp2_with fail
  generalize hW0 : (((w.alloc (.cells #[.int .i64 W, .int .i64 a, .int .i64 b, .int .i64 c] 53)).alloc (.cells #[.int .i64 2, .int .i64 m, .int .i64 x, .int .i64 y, .int .i64 z] 45)).alloc (.cells #[.int .i64 0, .int .i64 0, .int .i64 0, .int .i64 0] 53)) = W0 at *
  have H := Lib.hid h
  clear h
  generalize hn : w.heap.size = n at *
  clear hW0
  refine (C1.out _).mono ?_; rintro e w1 ⟨rfl, b1⟩
  have B2 := Lib.hid (((hX.out.step b1).step ((Below.refl _ _).alloc (Nat.le_refl _) (.cells #[.int .i64 W, .int .i64 A', .int .i64 B', .int .i64 c] 53))).step ((Below.refl _ _).alloc (Nat.le_refl _) (.cells #[.int .i64 pa, .int .i64 pb, .int .i64 pc] 43)))
  have V2 := Lib.hid ((Whole.new w1 53 #[.int .i64 W, .int .i64 A', .int .i64 B', .int .i64 c]).alloc (.cells #[.int .i64 pa, .int .i64 pb, .int .i64 pc] 43))
  have U2 := Lib.hid (Whole.new (w1.alloc (.cells #[.int .i64 W, .int .i64 A', .int .i64 B', .int .i64 c] 53)) 43 #[.int .i64 pa, .int .i64 pb, .int .i64 pc])
  have hm1 : n + 3 ≤ w1.heap.size := (hX.out.step b1).2.1
  have hsz : (w1.alloc (.cells #[.int .i64 W, .int .i64 A', .int .i64 B', .int .i64 c] 53)).heap.size = w1.heap.size + 1 := by simp
  rw [hsz] at U2
  clear b1 hX hsz
  go_upto_region 7 with (fail)
  generalize ((w1.alloc (.cells #[.int .i64 W, .int .i64 A', .int .i64 B', .int .i64 c] 53)).alloc (.cells #[.int .i64 pa, .int .i64 pb, .int .i64 pc] 43)) = w2 at *
  generalize w1.heap.size = r at *
  obtain ⟨hb, hs, k, s, zz⟩ := B2.out
  have hk : Ck w2 g W a b c := Whole.below H.out hb (by omega)
  have HB := Lib.hid hb
  clear hb s k
  go_wp2_with fail
  refine (C2.out _ hk).mono ?_; rintro e w3 ⟨rfl, hk3, hc3⟩
  have hng : n + 2 ≠ g := by omega
  have hgn : g ≠ n + 2 := by omega
  have hrg : r ≠ g := by omega
  have hrg2 : r + 1 ≠ g := by omega
  have hs3 : r + 2 ≤ w3.heap.size := by
    have h1 := hc3.size
    have h2 := U2.out.lt
    omega
  have v := Lib.hid ((V2.out.ch hc3 hrg).alloc (.cells #[.int .i64 pa, .int .i64 pb, .int .i64 pc] 43))
  have u := Lib.hid ((U2.out.ch hc3 hrg2).alloc (.cells #[.int .i64 pa, .int .i64 pb, .int .i64 pc] 43))
  have q := Lib.hid (Whole.new w3 43 #[.int .i64 pa, .int .i64 pb, .int .i64 pc])
  have zz3 := Lib.hid ((zz.ch hc3 hng).alloc (.cells #[.int .i64 pa, .int .i64 pb, .int .i64 pc] 43))
  have kk3 := Lib.hid (Whole.alloc hk3 (.cells #[.int .i64 pa, .int .i64 pb, .int .i64 pc] 43))
  have HC3 := Lib.hid (((below_ch (hn.symm ▸ HB.out) (S := fun k => k = g)).trans hc3 (fun k _ h => h)).trans (Ch.alloc_ (fun k => k = g) w3 (.cells #[.int .i64 pa, .int .i64 pb, .int .i64 pc] 43)) (fun k _ h => h))
  clear zz hk hk3 hc3 HB
  go_upto_region 8 with (fail)
  generalize (w3.alloc (.cells #[.int .i64 pa, .int .i64 pb, .int .i64 pc] 43)) = w4 at *
  generalize w3.heap.size = r' at *
  have V := v.out
  have U := u.out
  have Q := q.out
  have HZ3 := Lib.hid zz3.out.drew
  have HK3 := Lib.hid (Whole.drew kk3.out)
  have ZZ := zz3.out
  have v0 : w4.cell? ⟨r, 0, none⟩ = some (.int .i64 W) := (by rw [V.cell]; rfl)
  have v1 : w4.cell? ⟨r, 1, none⟩ = some (.int .i64 A') := (by rw [V.cell]; rfl)
  have v2 : w4.cell? ⟨r, 2, none⟩ = some (.int .i64 B') := (by rw [V.cell]; rfl)
  have v3 : w4.cell? ⟨r, 3, none⟩ = some (.int .i64 c) := (by rw [V.cell]; rfl)
  have u0 : w4.cell? ⟨r + 1, 0, none⟩ = some (.int .i64 pa) := (by rw [U.cell]; rfl)
  have u1 : w4.cell? ⟨r + 1, 1, none⟩ = some (.int .i64 pb) := (by rw [U.cell]; rfl)
  have u2 : w4.cell? ⟨r + 1, 2, none⟩ = some (.int .i64 pc) := (by rw [U.cell]; rfl)
  have q0 : w4.cell? ⟨r', 0, none⟩ = some (.int .i64 pa) := (by rw [Q.cell]; rfl)
  have q1 : w4.cell? ⟨r', 1, none⟩ = some (.int .i64 pb) := (by rw [Q.cell]; rfl)
  have q2 : w4.cell? ⟨r', 2, none⟩ = some (.int .i64 pc) := (by rw [Q.cell]; rfl)
  have z0 : w4.cell? ⟨n + 2, 0, none⟩ = some (.int .i64 0) := (by rw [ZZ.cell]; rfl)
  have z1 : w4.cell? ⟨n + 2, 1, none⟩ = some (.int .i64 0) := (by rw [ZZ.cell]; rfl)
  have z2 : w4.cell? ⟨n + 2, 2, none⟩ = some (.int .i64 0) := (by rw [ZZ.cell]; rfl)
  have z3 : w4.cell? ⟨n + 2, 3, none⟩ = some (.int .i64 0) := (by rw [ZZ.cell]; rfl)
  have j0 := ZZ.free 0
  have j1 := ZZ.free 1
  have j2 := ZZ.free 2
  have j3 := ZZ.free 3
  clear V U Q ZZ v u q zz3 kk3
  go_region
  go_wp2
  have HC4 := HC3.out.drew
  have hz := ((((HZ3.out.set_ 0 (.int .i64 W)).set_ 1 (.int .i64 A')).set_ 2 (.int .i64 B')).set_ 3 (.int .i64 c))
  have kf : Ck _ g (W) (A') (B') (c) := ((((HK3.out.far (p := ⟨n + 2, 0, none⟩) hgn (.int .i64 W)).far (p := ⟨n + 2, 1, none⟩) hgn (.int .i64 A')).far (p := ⟨n + 2, 2, none⟩) hgn (.int .i64 B')).far (p := ⟨n + 2, 3, none⟩) hgn (.int .i64 c))
  have cf := ch_far4 (p := n + 2) HC4 (by omega) (.int .i64 W) (.int .i64 A') (.int .i64 B') (.int .i64 c)
  change bodyPost _ _ _ _ _ ((((w4.drew.setCell ⟨n + 2, 0, none⟩ (.int .i64 W)).setCell ⟨n + 2, 1, none⟩ (.int .i64 A')).setCell ⟨n + 2, 2, none⟩ (.int .i64 B')).setCell ⟨n + 2, 3, none⟩ (.int .i64 c))
  generalize ((((w4.drew.setCell ⟨n + 2, 0, none⟩ (.int .i64 W)).setCell ⟨n + 2, 1, none⟩ (.int .i64 A')).setCell ⟨n + 2, 2, none⟩ (.int .i64 B')).setCell ⟨n + 2, 3, none⟩ (.int .i64 c)) = W9 at *
  have x0 : W9.cell? ⟨n + 2, 0, none⟩ = some (.int .i64 W) := (by rw [hz.cell]; rfl)
  have x1 : W9.cell? ⟨n + 2, 1, none⟩ = some (.int .i64 A') := (by rw [hz.cell]; rfl)
  have x2 : W9.cell? ⟨n + 2, 2, none⟩ = some (.int .i64 B') := (by rw [hz.cell]; rfl)
  have x3 : W9.cell? ⟨n + 2, 3, none⟩ = some (.int .i64 c) := (by rw [hz.cell]; rfl)
  exact bodyPost_ret (v := .tuple #[.agg #[.int .i64 W, .int .i64 A', .int .i64 B', .int .i64 c], .bool true]) (by simp [results, Try.results36, go_sem, x0, x1, x2, x3]) rfl ⟨rfl, kf, cf⟩
set_option maxHeartbeats 1000000 in
theorem step5_any (W a b c m x y z : Int) (hb : 0 ≤ b ∧ b ≤ 65535) (w : World) (g : Nat) (h : Ck w g W a b c) :
    Calls Try.prog 36 #[gp g, ckV W a b c, spV 5 m x y z] w fun e w' => e = .returned (.tuple #[ckV W a b c, .bool true]) ∧ Ck w' g W a b c ∧ Ch (fun k => k = g) w w' := by
  have C1 := Lib.hid (fun w => rpeek_any W a b c hb w)
  have C2 := Lib.hid (fun w h => peek_any W a b c hb w g h)
  clear hb
  generalize pkV W a b c = P at *
  obtain ⟨pa, pb, pc, pe⟩ := P
  simp only at *
  have hg := h.lt
  have hX := Lib.hid (box3_new w 53 45 53 #[.int .i64 W, .int .i64 a, .int .i64 b, .int .i64 c] #[.int .i64 5, .int .i64 m, .int .i64 x, .int .i64 y, .int .i64 z] #[.int .i64 0, .int .i64 0, .int .i64 0, .int .i64 0])
  unfold ckV spV gp at *
  try unfold stV at *
  go_enter Try.func36, Try.ntmps36
  go_wp2_with fail
  generalize hW0 : (((w.alloc (.cells #[.int .i64 W, .int .i64 a, .int .i64 b, .int .i64 c] 53)).alloc (.cells #[.int .i64 5, .int .i64 m, .int .i64 x, .int .i64 y, .int .i64 z] 45)).alloc (.cells #[.int .i64 0, .int .i64 0, .int .i64 0, .int .i64 0] 53)) = W0 at *
  have H := Lib.hid h
  clear h
  generalize hn : w.heap.size = n at *
  clear hW0
  refine (C1.out _).mono ?_; rintro e w1 ⟨rfl, b1⟩
  have B2 := Lib.hid ((hX.out.step b1).step ((Below.refl _ _).alloc (Nat.le_refl _) (.cells #[.int .i64 pa, .int .i64 pb, .int .i64 pc] 43)))
  have U2 := Lib.hid (Whole.new w1 43 #[.int .i64 pa, .int .i64 pb, .int .i64 pc])
  have hm1 : n + 3 ≤ w1.heap.size := (hX.out.step b1).2.1
  clear b1 hX
  go_upto_region 17 with (fail)
  generalize (w1.alloc (.cells #[.int .i64 pa, .int .i64 pb, .int .i64 pc] 43)) = w2 at *
  generalize w1.heap.size = r at *
  obtain ⟨hb, hs, k, s, zz⟩ := B2.out
  have hk : Ck w2 g W a b c := Whole.below H.out hb (by omega)
  go_wp2_with fail
  refine (C2.out _ hk).mono ?_; rintro e w3 ⟨rfl, b3⟩
  have hgn : g ≠ n + 2 := by omega
  have hs3 : r + 1 ≤ w3.heap.size := by
    have h1 := b3.size
    have h2 := U2.out.lt
    omega
  have kk := Lib.hid ((k.below b3 k.lt).alloc (.cells #[.int .i64 pa, .int .i64 pb, .int .i64 pc] 43))
  have u := Lib.hid ((U2.out.below b3 U2.out.lt).alloc (.cells #[.int .i64 pa, .int .i64 pb, .int .i64 pc] 43))
  have q := Lib.hid (Whole.new w3 43 #[.int .i64 pa, .int .i64 pb, .int .i64 pc])
  have zz3 := Lib.hid ((zz.below b3 zz.lt).alloc (.cells #[.int .i64 pa, .int .i64 pb, .int .i64 pc] 43))
  have kk3 := Lib.hid (Whole.alloc (Whole.below hk b3 hk.lt) (.cells #[.int .i64 pa, .int .i64 pb, .int .i64 pc] 43))
  have HC3 := Lib.hid (((below_ch (hn.symm ▸ hb) (S := fun k => k = g)).trans (below_ch b3) (fun k _ h => h)).trans (Ch.alloc_ (fun k => k = g) w3 (.cells #[.int .i64 pa, .int .i64 pb, .int .i64 pc] 43)) (fun k _ h => h))
  clear zz hk b3 hb k s
  go_upto_region 18 with (fail)
  generalize (w3.alloc (.cells #[.int .i64 pa, .int .i64 pb, .int .i64 pc] 43)) = w4 at *
  generalize w3.heap.size = r' at *
  have V := kk.out
  have U := u.out
  have Q := q.out
  have HZ3 := Lib.hid zz3.out.drew
  have HK3 := Lib.hid (Whole.drew kk3.out)
  have ZZ := zz3.out
  have v0 : w4.cell? ⟨n, 0, none⟩ = some (.int .i64 W) := (by rw [V.cell]; rfl)
  have v1 : w4.cell? ⟨n, 1, none⟩ = some (.int .i64 a) := (by rw [V.cell]; rfl)
  have v2 : w4.cell? ⟨n, 2, none⟩ = some (.int .i64 b) := (by rw [V.cell]; rfl)
  have v3 : w4.cell? ⟨n, 3, none⟩ = some (.int .i64 c) := (by rw [V.cell]; rfl)
  have u0 : w4.cell? ⟨r, 0, none⟩ = some (.int .i64 pa) := (by rw [U.cell]; rfl)
  have u1 : w4.cell? ⟨r, 1, none⟩ = some (.int .i64 pb) := (by rw [U.cell]; rfl)
  have u2 : w4.cell? ⟨r, 2, none⟩ = some (.int .i64 pc) := (by rw [U.cell]; rfl)
  have q0 : w4.cell? ⟨r', 0, none⟩ = some (.int .i64 pa) := (by rw [Q.cell]; rfl)
  have q1 : w4.cell? ⟨r', 1, none⟩ = some (.int .i64 pb) := (by rw [Q.cell]; rfl)
  have q2 : w4.cell? ⟨r', 2, none⟩ = some (.int .i64 pc) := (by rw [Q.cell]; rfl)
  have z0 : w4.cell? ⟨n + 2, 0, none⟩ = some (.int .i64 0) := (by rw [ZZ.cell]; rfl)
  have z1 : w4.cell? ⟨n + 2, 1, none⟩ = some (.int .i64 0) := (by rw [ZZ.cell]; rfl)
  have z2 : w4.cell? ⟨n + 2, 2, none⟩ = some (.int .i64 0) := (by rw [ZZ.cell]; rfl)
  have z3 : w4.cell? ⟨n + 2, 3, none⟩ = some (.int .i64 0) := (by rw [ZZ.cell]; rfl)
  have j0 := ZZ.free 0
  have j1 := ZZ.free 1
  have j2 := ZZ.free 2
  have j3 := ZZ.free 3
  clear V U Q ZZ kk u q zz3 kk3
  go_region
  go_wp2
  have HC4 := HC3.out.drew
  have hz := ((((HZ3.out.set_ 0 (.int .i64 W)).set_ 1 (.int .i64 a)).set_ 2 (.int .i64 b)).set_ 3 (.int .i64 c))
  have kf : Ck _ g (W) (a) (b) (c) := ((((HK3.out.far (p := ⟨n + 2, 0, none⟩) hgn (.int .i64 W)).far (p := ⟨n + 2, 1, none⟩) hgn (.int .i64 a)).far (p := ⟨n + 2, 2, none⟩) hgn (.int .i64 b)).far (p := ⟨n + 2, 3, none⟩) hgn (.int .i64 c))
  have cf := ch_far4 (p := n + 2) HC4 (by omega) (.int .i64 W) (.int .i64 a) (.int .i64 b) (.int .i64 c)
  change bodyPost _ _ _ _ _ ((((w4.drew.setCell ⟨n + 2, 0, none⟩ (.int .i64 W)).setCell ⟨n + 2, 1, none⟩ (.int .i64 a)).setCell ⟨n + 2, 2, none⟩ (.int .i64 b)).setCell ⟨n + 2, 3, none⟩ (.int .i64 c))
  generalize ((((w4.drew.setCell ⟨n + 2, 0, none⟩ (.int .i64 W)).setCell ⟨n + 2, 1, none⟩ (.int .i64 a)).setCell ⟨n + 2, 2, none⟩ (.int .i64 b)).setCell ⟨n + 2, 3, none⟩ (.int .i64 c)) = W9 at *
  have x0 : W9.cell? ⟨n + 2, 0, none⟩ = some (.int .i64 W) := (by rw [hz.cell]; rfl)
  have x1 : W9.cell? ⟨n + 2, 1, none⟩ = some (.int .i64 a) := (by rw [hz.cell]; rfl)
  have x2 : W9.cell? ⟨n + 2, 2, none⟩ = some (.int .i64 b) := (by rw [hz.cell]; rfl)
  have x3 : W9.cell? ⟨n + 2, 3, none⟩ = some (.int .i64 c) := (by rw [hz.cell]; rfl)
  exact bodyPost_ret (v := .tuple #[.agg #[.int .i64 W, .int .i64 a, .int .i64 b, .int .i64 c], .bool true]) (by simp [results, Try.results36, go_sem, x0, x1, x2, x3]) rfl ⟨rfl, kf, cf⟩
set_option maxHeartbeats 1000000 in
theorem step0_any (W a b c m x y z : Int) (k : Int) (t1 : (k == 1) = false) (t2 : (k == 2) = false) (t3 : (k == 3) = false) (t4 : (k == 4) = false) (t5 : (k == 5) = false) (w : World) (g : Nat) (h : Ck w g W a b c) :
    Calls Try.prog 36 #[gp g, ckV W a b c, spV k m x y z] w fun e w' => e = .returned (.tuple #[ckV W a b c, .bool true]) ∧ Ck w' g W a b c ∧ Ch (fun k => k = g) w w' := by

  have hg := h.lt
  have hX := Lib.hid (box3_new w 53 45 53 #[.int .i64 W, .int .i64 a, .int .i64 b, .int .i64 c] #[.int .i64 k, .int .i64 m, .int .i64 x, .int .i64 y, .int .i64 z] #[.int .i64 0, .int .i64 0, .int .i64 0, .int .i64 0])
  unfold ckV spV gp at *
  try unfold stV at *
  go_enter Try.func36, Try.ntmps36
  go_upto_region 1 with (fail)
  generalize hW0 : (((w.alloc (.cells #[.int .i64 W, .int .i64 a, .int .i64 b, .int .i64 c] 53)).alloc (.cells #[.int .i64 k, .int .i64 m, .int .i64 x, .int .i64 y, .int .i64 z] 45)).alloc (.cells #[.int .i64 0, .int .i64 0, .int .i64 0, .int .i64 0] 53)) = W0 at *
  have H := Lib.hid h
  clear h
  generalize hn : w.heap.size = n at *
  clear hW0
  obtain ⟨hb, hs, k', s, zz⟩ := hX.out
  have hgn : g ≠ n + 2 := by omega
  have HZ3 := Lib.hid zz
  have HK3 := Lib.hid (show Ck W0 g W a b c from Whole.below H.out hb (by omega))
  have HC3 := Lib.hid (below_ch (hn.symm ▸ hb) (S := fun k => k = g))
  have v0 : W0.cell? ⟨n, 0, none⟩ = some (.int .i64 W) := (by rw [k'.cell]; rfl)
  have v1 : W0.cell? ⟨n, 1, none⟩ = some (.int .i64 a) := (by rw [k'.cell]; rfl)
  have v2 : W0.cell? ⟨n, 2, none⟩ = some (.int .i64 b) := (by rw [k'.cell]; rfl)
  have v3 : W0.cell? ⟨n, 3, none⟩ = some (.int .i64 c) := (by rw [k'.cell]; rfl)
  have s0 : W0.cell? ⟨n + 1, 0, none⟩ = some (.int .i64 k) := (by rw [s.cell]; rfl)
  have z0 : W0.cell? ⟨n + 2, 0, none⟩ = some (.int .i64 0) := (by rw [zz.cell]; rfl)
  have z1 : W0.cell? ⟨n + 2, 1, none⟩ = some (.int .i64 0) := (by rw [zz.cell]; rfl)
  have z2 : W0.cell? ⟨n + 2, 2, none⟩ = some (.int .i64 0) := (by rw [zz.cell]; rfl)
  have z3 : W0.cell? ⟨n + 2, 3, none⟩ = some (.int .i64 0) := (by rw [zz.cell]; rfl)
  have j0 := zz.free 0
  have j1 := zz.free 1
  have j2 := zz.free 2
  have j3 := zz.free 3
  clear k' s zz hb hX
  go_wp2
  have hz := ((((HZ3.out.set_ 0 (.int .i64 W)).set_ 1 (.int .i64 a)).set_ 2 (.int .i64 b)).set_ 3 (.int .i64 c))
  have kf : Ck _ g (W) (a) (b) (c) := ((((HK3.out.far (p := ⟨n + 2, 0, none⟩) hgn (.int .i64 W)).far (p := ⟨n + 2, 1, none⟩) hgn (.int .i64 a)).far (p := ⟨n + 2, 2, none⟩) hgn (.int .i64 b)).far (p := ⟨n + 2, 3, none⟩) hgn (.int .i64 c))
  have cf := ch_far4 (p := n + 2) HC3.out (by omega) (.int .i64 W) (.int .i64 a) (.int .i64 b) (.int .i64 c)
  generalize ((((W0.setCell ⟨n + 2, 0, none⟩ (.int .i64 W)).setCell ⟨n + 2, 1, none⟩ (.int .i64 a)).setCell ⟨n + 2, 2, none⟩ (.int .i64 b)).setCell ⟨n + 2, 3, none⟩ (.int .i64 c)) = W9 at *
  have x0 : W9.cell? ⟨n + 2, 0, none⟩ = some (.int .i64 W) := (by rw [hz.cell]; rfl)
  have x1 : W9.cell? ⟨n + 2, 1, none⟩ = some (.int .i64 a) := (by rw [hz.cell]; rfl)
  have x2 : W9.cell? ⟨n + 2, 2, none⟩ = some (.int .i64 b) := (by rw [hz.cell]; rfl)
  have x3 : W9.cell? ⟨n + 2, 3, none⟩ = some (.int .i64 c) := (by rw [hz.cell]; rfl)
  exact bodyPost_ret (v := .tuple #[.agg #[.int .i64 W, .int .i64 a, .int .i64 b, .int .i64 c], .bool true]) (by simp [results, Try.results36, go_sem, x0, x1, x2, x3]) rfl ⟨rfl, kf, cf⟩
end Go.Proofs.Ytjlmbdhjpjbneaa
