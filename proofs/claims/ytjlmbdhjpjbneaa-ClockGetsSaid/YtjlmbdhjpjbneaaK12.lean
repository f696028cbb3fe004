/- Layer 19 (clock): the walk of the law ClockStamps. -/
import Derived.Test.YtjlmbdhjpjbneaaK11
import Derived.Test.YtjlmbdhjpjbneaaO6
import Derived.Deep.DeepCutAuto
namespace Go.Proofs.Ytjlmbdhjpjbneaa
open Go.RowKit
set_option linter.unusedVariables false
set_option maxRecDepth 100000

theorem rnumR_put {most x : Nat} (r : List UInt8) (h : x ≤ most) (h2 : x < 18446744073709551616) : rnumR most (vput x ++ r) 0 = (x, r, 0) := by
  unfold rnumR
  rw [vget_put x r h2]
  simp
  omega
theorem stG_put {d i s : Int} (h : stB d i s = true) : stG (stP d i s) 0 = ((d.toNat, i.toNat, s.toNat), [], 0) := by
  have hb := h
  simp [stB, inB] at hb
  unfold stG stP
  rw [if_pos h]
  simp only [rnumR_put (vput i.toNat ++ vput s.toNat) (show d.toNat ≤ 4398046511104 by omega) (by omega), rnumR_put (vput s.toNat) (show i.toNat ≤ 65535 by omega) (by omega)]
  have := rnumR_put [] (show s.toNat ≤ 63 by omega) (by omega)
  rw [List.append_nil] at this
  rw [this]
theorem stGV_put {d i s : Int} (h : stB d i s = true) : stGV (stP d i s) 0 = stV d i s := by
  have hb := h
  simp [stB, inB] at hb
  unfold stGV
  rw [stG_put h]
  simp only [ne_eq, not_true_eq_false, if_false]
  rw [Int.toNat_of_nonneg (by omega), Int.toNat_of_nonneg (by omega), Int.toNat_of_nonneg (by omega)]
theorem Re.below {w w' : World} {B b n c : Nat} {A : Option Addr} {l : List UInt8} {er : Int} (h : Re w b A n c l er) (hb : Below B w w') (hB : b < B) : Re w' b A n c l er :=
  ⟨h.1.below hb hB, h.2.1.below (below_of_le hb (by omega)), h.2.2⟩
/-- Two boxes of one stamp, and all that lay there. -/
def Sm (n m : Nat) (d i s d' i' s' : Int) (w w' : World) : Prop :=
  Below w.heap.size w w' ∧ w'.cell? ⟨n, 0, none⟩ = some (.int .i64 d) ∧ w'.cell? ⟨n, 1, none⟩ = some (.int .i64 i) ∧ w'.cell? ⟨n, 2, none⟩ = some (.int .i64 s) ∧
    w'.cell? ⟨m, 0, none⟩ = some (.int .i64 d') ∧ w'.cell? ⟨m, 1, none⟩ = some (.int .i64 i') ∧ w'.cell? ⟨m, 2, none⟩ = some (.int .i64 s')
theorem Sm.step {n m : Nat} {d i s d' i' s' : Int} {w w1 w2 : World} (hn : n < w.heap.size) (hm : m < w.heap.size) (h : Sm n m d i s d' i' s' w w1) (b : Below w1.heap.size w1 w2) : Sm n m d i s d' i' s' w w2 := by
  obtain ⟨h0, c0, c1, c2, c3, c4, c5⟩ := h
  have := h0.size
  refine ⟨below_step h0 b, ?_, ?_, ?_, ?_, ?_, ?_⟩
  all_goals
    rw [b.cell (by simp only; omega)]
    assumption
theorem sm_keep {n m : Nat} {d i s d' i' s' : Int} {w : World} (hn : n < w.heap.size) (hm : m < w.heap.size) {f : FuncId} {args : Array Value} {v : Value} (h : ∀ W, Sm n m d i s d' i' s' w W → Calls Try.prog f args W fun e w' => e = .returned v ∧ Below W.heap.size W w') {W : World} (hS : Sm n m d i s d' i' s' w W) :
    Calls Try.prog f args W fun e w' => e = .returned v ∧ Sm n m d i s d' i' s' w w' :=
  (h W hS).mono fun e w' h' => ⟨h'.1, hS.step hn hm h'.2⟩
theorem sm_new {n m : Nat} {d i s d' i' s' : Int} {w : World} (hn : n < w.heap.size) (hm : m < w.heap.size) {f : FuncId} {args : Array Value} {L : List UInt8} (h : ∀ W, Sm n m d i s d' i' s' w W → Calls Try.prog f args W (NewB W L)) {W : World} (hS : Sm n m d i s d' i' s' w W) :
    Calls Try.prog f args W fun e w' => ∃ A c, e = .returned (.slice A L.length c) ∧ Own w' W.heap.size 5 1 A L.length c (bv L) ∧ Below W.heap.size W w' ∧ Sm n m d i s d' i' s' w w' :=
  (h W hS).mono fun e w' ⟨A, c, h1, h2, h3⟩ => ⟨A, c, h1, h2, h3, hS.step hn hm h3⟩
theorem sm_same {n m : Nat} {d i s d' i' s' : Int} {w W : World} (hn : n < w.heap.size) (hm : m < w.heap.size) (L : List UInt8) (hL : L.length ≤ 9223372036854775807) {A A' : Option Addr} {c c' : Nat} (h1 : Rd W W.heap.size 1 A L.length (bv L)) (h2 : Rd W W.heap.size 1 A' L.length (bv L)) (hS : Sm n m d i s d' i' s' w W) :
    Calls Try.prog 47 #[.slice A L.length c, .slice A' L.length c'] W fun e w' => e = .returned (.bool true) ∧ Sm n m d i s d' i' s' w w' :=
  (same_any L A A' L.length L.length c c' W.heap.size W hL h1 h2 (Nat.le_refl _)).mono fun e w' h' => ⟨h'.1, hS.step hn hm h'.2⟩
theorem sm_end {n m : Nat} {d i s d' i' s' : Int} {w W : World} {b k c : Nat} {A : Option Addr} (hRe : Re w b A k c [] 0) (hS : Sm n m d i s d' i' s' w W) :
    Calls Try.prog 52 #[.pointer (some ⟨b, 0, none⟩)] W fun e w' => e = .returned (.int .i64 0) ∧ Sm n m d i s d' i' s' w w' :=
  (rend_any W b A k c [] 0 (hRe.below hS.1 hRe.1.lt)).mono fun e w' h' => ⟨h'.1, h'.2 ▸ hS⟩
set_option maxHeartbeats 4000000 in
theorem clockStamps_walk (w : World) (d i s d' i' s' : Int) :
    Calls Try.prog 14 #[stV d i s, stV d' i' s'] w fun e w' => e = .returned (.bool true) ∧ Below w.heap.size w w' := by
  have CP := Lib.hid (fun (w : World) (base b : Nat) (h : Wr w base b none 0 []) (hb : base ≤ w.heap.size) => cput_any d i s w base b none 0 [] h hb (by simp))
  have CR := Lib.hid (fun w => cright_any d i s w)
  have CRR := Lib.hid (fun w => rcright_any d i s w)
  have CL := Lib.hid (fun w => cless_any d i s d' i' s' w)
  have CRL := Lib.hid (fun w => rcless_any d i s d' i' s' w)
  have CQ := fun (h : stB d i s = true) => Lib.hid (fun w => rcput_any d i s h w)
  have C9 := Lib.hid awake19_any
  have hG := fun (h : stB d i s = true) => stG_put h
  have hV := fun (h : stB d i s = true) => stGV_put h
  have hP : stB d i s = false → stP d i s = [] := fun h => by unfold stP; rw [h]; simp
  have hPl : (stP d i s).length ≤ 30 := by
    unfold stP
    split
    · rename_i hh
      simp [stB, inB] at hh
      have := vput_le (x := d.toNat) (by omega)
      have := vput_le (x := i.toNat) (by omega)
      have := vput_le (x := s.toNat) (by omega)
      simp
      omega
    · simp
  simp only [List.nil_append] at CP
  generalize stP d i s = L at *
  generalize stB d i s = q at *
  generalize stL d i s d' i' s' = u at *
  unfold stV at *
  have hT0 := Lib.hid (boxes_new w 43 #[.int .i64 d, .int .i64 i, .int .i64 s] #[.int .i64 d', .int .i64 i', .int .i64 s'])
  have hW0 := Lib.hid (wr_new ((w.alloc (.cells #[.int .i64 d, .int .i64 i, .int .i64 s] 43)).alloc (.cells #[.int .i64 d', .int .i64 i', .int .i64 s'] 43)) (w.heap.size + 2) (by simp))
  go_enter Try.func14, Try.ntmps14
  go_wp2_with fail
  obtain ⟨hb, hs, h1, h2⟩ := hT0.out
  have hW := hW0.out
  clear hT0 hW0
  generalize ((w.alloc (.cells #[.int .i64 d, .int .i64 i, .int .i64 s] 43)).alloc (.cells #[.int .i64 d', .int .i64 i', .int .i64 s'] 43)) = W0 at *
  generalize hn : w.heap.size = n at *
  rw [hs] at hW
  have hb1 : Below n w (W0.alloc (.cells #[.slice none 0 0] 64)) := hb.alloc (by omega) _
  have h1' := h1.alloc (.cells #[.slice none 0 0] 64)
  have h2' := h2.alloc (.cells #[.slice none 0 0] 64)
  have hsz : (W0.alloc (.cells #[.slice none 0 0] 64)).heap.size = n + 3 := by simp [hs]
  clear hb h1 h2
  generalize (W0.alloc (.cells #[.slice none 0 0] 64)) = W1 at *
  refine (CP.out W1 (n + 2) (n + 2) hW (by omega)).mono ?_; rintro e w1 ⟨A1, c1, rfl, hw1, st1⟩
  have hd1 := h1'.ch st1.1 (by rintro (e | e); omega; simp [bl] at e)
  have hd2 := h2'.ch st1.1 (by rintro (e | e); omega; simp [bl] at e)
  have hb2 : Below n w w1 := hb1.trans (st1.1.below (by rintro k hk (e | e); omega; simp [bl] at e) (by omega))
  have hz1 : n + 3 ≤ w1.heap.size := by have := st1.1.size; omega
  have CB := Lib.hid (wbytes_any w1 _ _ _ _ _ hw1 (by omega))
  have hA1 : ∀ g, bl A1 = some g → g < w1.heap.size := fun g hg => (hw1.2.2.block_lt g (by rw [ownBlock_bl]; exact hg)).2
  clear h1' h2' hb1 st1 hs hW hsz CP
  go_wp2_with fail
  refine (CB.out).mono ?_; rintro e w2 ⟨A2, c2, rfl, o2, b2⟩
  have hz2 := b2.size
  have CD := Lib.hid (read_any w2 A2 L.length c2 L o2.rd o2.2.1 o2.2.2)
  clear CB
  go_wp2_with fail
  refine (CD.out).mono ?_; rintro e w3 ⟨rfl, hRe, b3⟩
  have hz3 := hRe.1.lt
  have b23 := below_step b2 b3
  have hd1 := hd1.below b23 hd1.lt
  have hd2 := hd2.below b23 hd2.lt
  have hw3 := Lib.hid (hw1.below b23)
  have hb3 := Lib.hid (hb2.trans (below_of_le b23 (by omega)))
  have hRe3 := Lib.hid hRe
  generalize w2.heap.size = rp at *
  have k0 : Below w3.heap.size w3 w3.drew := (Below.refl _ _).drew
  have k1 : w3.drew.cell? ⟨n, 0, none⟩ = some (.int .i64 d) := by rw [hd1.drew.cell]; rfl
  have k2 : w3.drew.cell? ⟨n, 1, none⟩ = some (.int .i64 i) := by rw [hd1.drew.cell]; rfl
  have k3 : w3.drew.cell? ⟨n, 2, none⟩ = some (.int .i64 s) := by rw [hd1.drew.cell]; rfl
  have k4 : w3.drew.cell? ⟨n + 1, 0, none⟩ = some (.int .i64 d') := by rw [hd2.drew.cell]; rfl
  have k5 : w3.drew.cell? ⟨n + 1, 1, none⟩ = some (.int .i64 i') := by rw [hd2.drew.cell]; rfl
  have k6 : w3.drew.cell? ⟨n + 1, 2, none⟩ = some (.int .i64 s') := by rw [hd2.drew.cell]; rfl
  have hn3 : n < w3.heap.size := by omega
  have hm3 : n + 1 < w3.heap.size := by omega
  have HD1 := Lib.hid hd1
  have nq : (q != q) = false := by simp
  have nu : (u != u) = false := by simp
  clear CD o2 b2 b3 b23 hd1 hd2 hb2 hw1 hRe
  go_wp2_with fail
  go_region_held3 (fun W' => Below w3.heap.size w3 W' ∧ W'.cell? ⟨n, 0, none⟩ = some (.int .i64 d) ∧ W'.cell? ⟨n, 1, none⟩ = some (.int .i64 i) ∧ W'.cell? ⟨n, 2, none⟩ = some (.int .i64 s) ∧ W'.cell? ⟨n + 1, 0, none⟩ = some (.int .i64 d') ∧ W'.cell? ⟨n + 1, 1, none⟩ = some (.int .i64 i') ∧ W'.cell? ⟨n + 1, 2, none⟩ = some (.int .i64 s')) (first | with_reducible assumption | exact ⟨by with_reducible assumption, by with_reducible assumption, by with_reducible assumption, by with_reducible assumption, by with_reducible assumption, by with_reducible assumption, by with_reducible assumption⟩) ((first
      | (go_at_call 69; refine (sm_keep (w := w3) (n := n) (m := n + 1) (d := d) (i := i) (s := s) (d' := d') (i' := i') (s' := s') hn3 hm3 (fun W _ => CR.out W) ⟨by with_reducible assumption, by with_reducible assumption, by with_reducible assumption, by with_reducible assumption, by with_reducible assumption, by with_reducible assumption, by with_reducible assumption⟩).mono ?_; rintro e w9 ⟨rfl, p0, p1, p2, p3, p4, p5, p6⟩)
      | (go_at_call 70; refine (sm_keep (w := w3) (n := n) (m := n + 1) (d := d) (i := i) (s := s) (d' := d') (i' := i') (s' := s') hn3 hm3 (fun W _ => CRR.out W) ⟨by with_reducible assumption, by with_reducible assumption, by with_reducible assumption, by with_reducible assumption, by with_reducible assumption, by with_reducible assumption, by with_reducible assumption⟩).mono ?_; rintro e w9 ⟨rfl, p0, p1, p2, p3, p4, p5, p6⟩)
      | (go_at_call 71; refine (sm_keep (w := w3) (n := n) (m := n + 1) (d := d) (i := i) (s := s) (d' := d') (i' := i') (s' := s') hn3 hm3 (fun W _ => CL.out W) ⟨by with_reducible assumption, by with_reducible assumption, by with_reducible assumption, by with_reducible assumption, by with_reducible assumption, by with_reducible assumption, by with_reducible assumption⟩).mono ?_; rintro e w9 ⟨rfl, p0, p1, p2, p3, p4, p5, p6⟩)
      | (go_at_call 33; refine (sm_keep (w := w3) (n := n) (m := n + 1) (d := d) (i := i) (s := s) (d' := d') (i' := i') (s' := s') hn3 hm3 (fun W _ => CRL.out W) ⟨by with_reducible assumption, by with_reducible assumption, by with_reducible assumption, by with_reducible assumption, by with_reducible assumption, by with_reducible assumption, by with_reducible assumption⟩).mono ?_; rintro e w9 ⟨rfl, p0, p1, p2, p3, p4, p5, p6⟩)))
  refine (by assumption : ∀ (a : Act) (w : World), _ → _) _ _ ?_
  clear k0 k1 k2 k3 k4 k5 k6 CR CL CRL p4 p5 p6
  have P0 := Lib.hid p0
  clear p0
  go_wp2_with fail
  refine (CRR.out _).mono ?_; rintro e w10 ⟨rfl, b10⟩
  have B10 : Below w3.heap.size w3 w10 := below_step P0.out b10
  have hw10 := Lib.hid (hw3.out.below B10)
  have hb10 := Lib.hid (hb3.out.trans (below_of_le B10 (by omega)))
  have hz10 := B10.size
  have hRe10 := Lib.hid (hRe3.out.below B10 hz3)
  have HD10 := Lib.hid (HD1.out.below B10 (by omega))
  clear p1 p2 p3 b10 B10 P0 hw3 hb3 hRe3 HD1
  cases q
  · have hL := hP rfl
    subst hL
    have CB := Lib.hid (wbytes_any w10 _ _ _ _ _ hw10.out (by simp))
    clear hP hG hV hPl
    go_wp2_with fail
    refine (CB.out).mono ?_; rintro e w11 ⟨A11, c11, rfl, o11, b11⟩
    go_wp2_with fail
    refine (C9.out _).mono ?_; rintro e w12 ⟨rfl, b12⟩
    go_wp2
    go_ret
    exact ⟨rfl, hn ▸ hb10.out.trans (below_of_le (below_step b11 b12) (by omega))⟩
  · have CG := cget_any w10 rp A2 L.length c2 L 0 hRe10.out
    rw [hV rfl, hG rfl] at CG
    have CG' := Lib.hid CG
    have CQ' := CQ rfl
    clear hV hG hP CG CQ
    go_wp2_with fail
    refine (CG'.out).mono ?_; rintro e w11 ⟨A11, n11, c11, rfl, hRe11, h11⟩
    have hwr := hw10.out.ch h11 (by show ¬ n + 2 = rp; omega) (fun g hg => by have := hA1 g hg; show ¬ g = rp; omega)
    have hz11 := hRe11.1.lt
    have hw12 := Lib.hid (show Wr (w11.alloc (.cells #[.int .i64 d, .int .i64 i, .int .i64 s] 43)) (n + 2) (n + 2) A1 c1 L from hwr.below ((Below.refl _ _).alloc (Nat.le_refl _) _))
    have hRe12 := Lib.hid (show Re (w11.alloc (.cells #[.int .i64 d, .int .i64 i, .int .i64 s] 43)) rp A11 n11 c11 [] 0 from hRe11.below ((Below.refl _ _).alloc (Nat.le_refl _) _) hz11)
    have hN12 := Lib.hid ((HD10.out.ch h11 (by show ¬ n = rp; omega)).alloc (.cells #[.int .i64 d, .int .i64 i, .int .i64 s] 43))
    have hM12 := Lib.hid (Whole.new w11 43 #[.int .i64 d, .int .i64 i, .int .i64 s])
    have hb12 := Lib.hid ((hb10.out.trans (h11.below (S := fun k => k = rp) (B := n) (by intro k hk h; omega) (by omega))).alloc (by omega) (.cells #[.int .i64 d, .int .i64 i, .int .i64 s] 43))
    have hz12 : w11.heap.size < (w11.alloc (.cells #[.int .i64 d, .int .i64 i, .int .i64 s] 43)).heap.size := by simp
    clear CG' hwr hRe11 h11 hw10 hRe10 HD10 hb10
    go_upto_region 9 with (fail)
    generalize (w11.alloc (.cells #[.int .i64 d, .int .i64 i, .int .i64 s] 43)) = w12 at *
    generalize w11.heap.size = m at *
    have k0 : Below w12.heap.size w12 w12.drew := (Below.refl _ _).drew
    have k1 : w12.drew.cell? ⟨n, 0, none⟩ = some (.int .i64 d) := by rw [hN12.out.drew.cell]; rfl
    have k2 : w12.drew.cell? ⟨n, 1, none⟩ = some (.int .i64 i) := by rw [hN12.out.drew.cell]; rfl
    have k3 : w12.drew.cell? ⟨n, 2, none⟩ = some (.int .i64 s) := by rw [hN12.out.drew.cell]; rfl
    have k4 : w12.drew.cell? ⟨m, 0, none⟩ = some (.int .i64 d) := by rw [hM12.out.drew.cell]; rfl
    have k5 : w12.drew.cell? ⟨m, 1, none⟩ = some (.int .i64 i) := by rw [hM12.out.drew.cell]; rfl
    have k6 : w12.drew.cell? ⟨m, 2, none⟩ = some (.int .i64 s) := by rw [hM12.out.drew.cell]; rfl
    have hn12 : n < w12.heap.size := by omega
    have hm12 : m < w12.heap.size := by omega
    have hLL : L.length ≤ 9223372036854775807 := by omega
    have hLL2 : L.length ≤ 140737488355328 := by omega
    go_region_held3 (fun W' => Below w12.heap.size w12 W' ∧ W'.cell? ⟨n, 0, none⟩ = some (.int .i64 d) ∧ W'.cell? ⟨n, 1, none⟩ = some (.int .i64 i) ∧ W'.cell? ⟨n, 2, none⟩ = some (.int .i64 s) ∧ W'.cell? ⟨m, 0, none⟩ = some (.int .i64 d) ∧ W'.cell? ⟨m, 1, none⟩ = some (.int .i64 i) ∧ W'.cell? ⟨m, 2, none⟩ = some (.int .i64 s)) (first | with_reducible assumption | exact ⟨by with_reducible assumption, by with_reducible assumption, by with_reducible assumption, by with_reducible assumption, by with_reducible assumption, by with_reducible assumption, by with_reducible assumption⟩) ((first
      | (go_at_call 41; refine (sm_new (w := w12) (n := n) (m := m) (d := d) (i := i) (s := s) (d' := d) (i' := i) (s' := s) hn12 hm12 (fun W hS => wbytes_any W _ _ _ _ _ (hw12.out.below hS.1) hLL2) ⟨by with_reducible assumption, by with_reducible assumption, by with_reducible assumption, by with_reducible assumption, by with_reducible assumption, by with_reducible assumption, by with_reducible assumption⟩).mono ?_; rintro e w21 ⟨A21, c21, rfl, o21, b21, p0, p1, p2, p3, p4, p5, p6⟩)
      | (go_at_call 73; refine (sm_new (w := w12) (n := n) (m := m) (d := d) (i := i) (s := s) (d' := d) (i' := i) (s' := s) hn12 hm12 (fun W _ => CQ'.out W) ⟨by with_reducible assumption, by with_reducible assumption, by with_reducible assumption, by with_reducible assumption, by with_reducible assumption, by with_reducible assumption, by with_reducible assumption⟩).mono ?_; rintro e w22 ⟨A22, c22, rfl, o22, b22, p0, p1, p2, p3, p4, p5, p6⟩; have r21 := (o21.rd.below b22).more b22.size; have r22 := o22.rd)
      | (go_at_call 47; refine (sm_same (w := w12) (n := n) (m := m) (d := d) (i := i) (s := s) (d' := d) (i' := i) (s' := s) hn12 hm12 L hLL r21 r22 ⟨by with_reducible assumption, by with_reducible assumption, by with_reducible assumption, by with_reducible assumption, by with_reducible assumption, by with_reducible assumption, by with_reducible assumption⟩).mono ?_; rintro e w23 ⟨rfl, p0, p1, p2, p3, p4, p5, p6⟩)
      | (go_at_call 52; refine (sm_end (w := w12) (n := n) (m := m) (d := d) (i := i) (s := s) (d' := d) (i' := i) (s' := s) hRe12.out ⟨by with_reducible assumption, by with_reducible assumption, by with_reducible assumption, by with_reducible assumption, by with_reducible assumption, by with_reducible assumption, by with_reducible assumption⟩).mono ?_; rintro e w24 ⟨rfl, p0, p1, p2, p3, p4, p5, p6⟩)
      | (go_at_call 29; refine (sm_keep (w := w12) (n := n) (m := m) (d := d) (i := i) (s := s) (d' := d) (i' := i) (s' := s) hn12 hm12 (fun W _ => C9.out W) ⟨by with_reducible assumption, by with_reducible assumption, by with_reducible assumption, by with_reducible assumption, by with_reducible assumption, by with_reducible assumption, by with_reducible assumption⟩).mono ?_; rintro e w25 ⟨rfl, p0, p1, p2, p3, p4, p5, p6⟩)))
    refine (by assumption : ∀ (a : Act) (w : World), _ → _) _ _ ?_
    go_wp2
    go_ret
    exact ⟨rfl, hn ▸ hb12.out.trans (below_of_le p0 (by omega))⟩
theorem clockStamps_law (w : World) {a b : Value} (ha : IsStamp a) (hb : IsStamp b) :
    Calls Try.prog 14 #[a, b] w fun e w' => e = .returned (.bool true) ∧ Below w.heap.size w w' := by
  obtain ⟨d, i, s, rfl, _, _, _⟩ := ha
  obtain ⟨d', i', s', rfl, _, _, _⟩ := hb
  exact clockStamps_walk w d i s d' i' s'
end Go.Proofs.Ytjlmbdhjpjbneaa
