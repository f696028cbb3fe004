/- Layer 16 (dot): the walk of the law DotOrders. -/
import Derived.Test.YtjlmbdhjpjbneaaD7
import Derived.Deep.DeepCutAuto
namespace Go.Proofs.Ytjlmbdhjpjbneaa
open Go.RowKit
set_option linter.unusedVariables false
set_option maxRecDepth 100000

theorem two_keep {f : FuncId} {args : Array Value} {v : Value} (h : ∀ W, Calls Try.prog f args W fun e w' => e = .returned v ∧ Below W.heap.size W w') {n : Nat} {d i s d' i' s' : Int} {w W : World} (hT : TwoDots n d i s d' i' s' w W) :
    Calls Try.prog f args W fun e w' => e = .returned v ∧ TwoDots n d i s d' i' s' w w' :=
  (h W).mono fun e w' h' => ⟨h'.1, hT.step h'.2⟩
theorem TwoDots.step' {n : Nat} {d i s d' i' s' : Int} {w W W' : World} (h : TwoDots n d i s d' i' s' w W) (b : Below (n + 2) W W') : TwoDots n d i s d' i' s' w W' := by
  obtain ⟨h0, h1, c0, c1, c2, c3, c4, c5⟩ := h
  have hb := b.size
  refine ⟨h0.trans (below_of_le b (by omega)), by omega, ?_, ?_, ?_, ?_, ?_, ?_⟩
  all_goals
    rw [b.cell (by simp only; omega)]
    assumption
set_option maxHeartbeats 4000000 in
theorem dotOrders_walk (w : World) (d i s d' i' s' : Int) (bd : i64B d) (bi : i64B i) (bs_ : i64B s) (bd' : i64B d') (bi' : i64B i') (bs' : i64B s') :
    Calls Try.prog 3 #[dotV d i s, dotV d' i' s'] w fun e w' => e = .returned (.bool true) ∧ Below w.heap.size w w' := by
  have CN := Lib.hid (fun w => next_any d i s w)
  have CR := Lib.hid (fun w => rright_any d i s w)
  have CD := Lib.hid (fun w => right_any d i s w)
  have CA := Lib.hid (fun w => actor_any d i w)
  have CRA := Lib.hid (fun w => ractor_any d i w)
  have CL := Lib.hid (fun w => less_any d i s d' i' s' w)
  have CRL := Lib.hid (fun w => rdless_any d i s d' i' s' w)
  have CC := Lib.hid (fun w => compare_any d i d' i' w)
  have CH := Lib.hid (fun w => rahead_any d i d' i' w)
  have CH2 := Lib.hid (fun w => rahead_any d' i' d i w)
  have CT := Lib.hid (fun w => dtext_any d i s bd bi bs_ w)
  have C9 := Lib.hid awake16_any
  have CX1 := Lib.hid (fun w => rtext_any d bd.1 bd.2 w)
  have CX2 := Lib.hid (fun w => rtext_any i bi.1 bi.2 w)
  have CX3 := Lib.hid (fun w => rtext_any s bs_.1 bs_.2 w)
  have l1 := txtL_len d bd.1 bd.2
  have l2 := txtL_len i bi.1 bi.2
  have l3 := txtL_len s bs_.1 bs_.2
  have k1 := fun w => cat_any (P := Try.prog) (txtL d) [46] (by simp; omega) w
  have k2 := fun w => cat_any (P := Try.prog) (txtL d ++ [46]) (txtL i) (by simp; omega) w
  have k3 := fun w => cat_any (P := Try.prog) (txtL d ++ [46] ++ txtL i) [46] (by simp; omega) w
  have k4 := fun w => cat_any (P := Try.prog) (txtL d ++ [46] ++ txtL i ++ [46]) (txtL s) (by simp; omega) w
  unfold dotT at CT
  generalize bs (txtL d ++ [46] ++ txtL i ++ [46] ++ txtL s) = R5 at *
  generalize bs (txtL d ++ [46] ++ txtL i ++ [46]) = R4 at *
  generalize bs (txtL d ++ [46] ++ txtL i) = R3 at *
  generalize bs (txtL d ++ [46]) = R2 at *
  have hbs : bs [46] = ⟨#[46]⟩ := rfl
  rw [hbs] at k1 k3
  generalize bs (txtL d) = T1 at *
  generalize bs (txtL i) = T2 at *
  generalize bs (txtL s) = T3 at *
  clear l1 l2 l3 hbs
  have hB : dotB d i s = true → 1 ≤ s ∧ s ≤ 4294967296 := by
    intro hb
    simp [dotB, actB] at hb
    omega
  have h3 := three d i d' i'
  have hN := show nextV d i s = if dotB d i s = true ∧ s ≠ 4294967296 then .tuple #[dotV d i (s + 1), .int .i64 0] else .tuple #[dotV 0 0 0, .int .i64 4] from rfl
  rw [ord_less] at CL
  generalize dotB d i s = q at *
  generalize actB d i = r at *
  generalize rlessB d i s d' i' s' = u at *
  generalize aheadB d i d' i' = p1 at *
  generalize aheadB d' i' d i = p2 at *
  generalize orI (cmpI d d') (cmpI i i') = cc at *
  generalize nextV d i s = nv at *
  have hT0 := Lib.hid (TwoDots.new w d i s d' i' s' 25)
  unfold dotV actV at *
  obtain ⟨x0, x1, x2, er, hX, hX1, hX2⟩ : ∃ x0 x1 x2 er : Int, nv = .tuple #[.agg #[.int .i64 x0, .int .i64 x1, .int .i64 x2], .int .i64 er] ∧ ((q && decide (s < 4294967296)) = true → x0 = d ∧ x1 = i ∧ x2 = s + 1 ∧ er = 0) ∧ ((q && decide (s < 4294967296)) = false → x0 = 0 ∧ x1 = 0 ∧ x2 = 0 ∧ er = 4) := by
    by_cases hq : q = true ∧ s ≠ 4294967296
    · rw [if_pos hq] at hN
      obtain ⟨rfl, hs⟩ := hq
      have := hB rfl
      refine ⟨d, i, s + 1, 0, hN, fun _ => ⟨rfl, rfl, rfl, rfl⟩, fun hf => ?_⟩
      simp at hf
      omega
    · rw [if_neg hq] at hN
      refine ⟨0, 0, 0, 4, hN, fun ht => ?_, fun _ => ⟨rfl, rfl, rfl, rfl⟩⟩
      simp at ht
      exact absurd ⟨ht.1, by omega⟩ hq
  subst hX
  clear hN
  have HX1 := Lib.hid hX1
  have HX2 := Lib.hid hX2
  clear hX1 hX2
  go_enter Try.func3, Try.ntmps3
  go_wp2_with fail
  have hT := hT0.out
  clear hT0
  generalize ((w.alloc (.cells #[.int .i64 d, .int .i64 i, .int .i64 s] 25)).alloc (.cells #[.int .i64 d', .int .i64 i', .int .i64 s'] 25)) = W at *
  refine (CN.out _).mono ?_; rintro e w1 ⟨rfl, b1⟩
  have hT1 := hT.step b1
  have HT1 := Lib.hid hT1
  obtain ⟨s0, s1, c0, c1, c2, c3, c4, c5⟩ := hT1
  clear hT b1 s0
  generalize hn : w.heap.size = n at *
  have hA := HT1.out.step ((Below.refl _ _).alloc (Nat.le_refl _) (.cells #[.int .i64 x0, .int .i64 x1, .int .i64 x2] 25))
  have HA2 := Lib.hid (hA.step ((Below.refl _ _).alloc (Nat.le_refl _) (.cells #[.int .i64 d, .int .i64 i, .int .i64 s] 25)))
  have HN := Lib.hid ((Whole.new w1 25 #[.int .i64 x0, .int .i64 x1, .int .i64 x2]).alloc (.cells #[.int .i64 d, .int .i64 i, .int .i64 s] 25))
  obtain ⟨_, _, kk0, kk1, kk2, _⟩ := hA
  clear c0 c1 c2 c3 c4 c5 HT1
  go_upto_region 3 with (fail)
  have hA2 := HA2.out
  have hN := HN.out
  have hV := Whole.new (w1.alloc (.cells #[.int .i64 x0, .int .i64 x1, .int .i64 x2] 25)) 25 #[.int .i64 d, .int .i64 i, .int .i64 s]
  have hsz : (w1.alloc (.cells #[.int .i64 x0, .int .i64 x1, .int .i64 x2] 25)).heap.size = w1.heap.size + 1 := by simp
  rw [hsz] at hV
  clear kk0 kk1 kk2 HA2 HN hsz
  generalize ((w1.alloc (.cells #[.int .i64 x0, .int .i64 x1, .int .i64 x2] 25)).alloc (.cells #[.int .i64 d, .int .i64 i, .int .i64 s] 25)) = W2 at *
  obtain ⟨_, _, q0, q1, q2, _⟩ := id hA2
  go_cut [22] (fun v wx => v = .bool (q && decide (s < 4294967296)) ∧ Below W2.heap.size W2 wx)
  case first =>
    go_wp2_with fail
    refine (CR.out _).mono ?_; rintro e w2 ⟨rfl, b2⟩
    have hT3 := hA2.step b2
    obtain ⟨_, _, c0, c1, c2, c3, c4, c5⟩ := hT3
    cases q
    · go_wp2_with fail
      go_meet
      case rel => exact ⟨rfl, b2⟩
    · go_wp2_with fail
      go_meet
      case rel => exact ⟨rfl, b2⟩
  case rest =>
    rename_i wc
    obtain ⟨hs, b2⟩ := hcut
    subst hs
    have hT3 := Lib.hid (hA2.step b2)
    have hN3 := Lib.hid (hN.below b2 hN.lt)
    have hV3 := Lib.hid (hV.below b2 hV.lt)
    clear hN hV hA2 b2 q0 q1 q2
    go_upto_if 22 with (fail)
    go_cut [] (fun wx => TwoDots n d i s d' i' s' w wx)
    case first =>
      have hN4 := hN3.out
      have hV4 := hV3.out
      obtain ⟨_, _, c0, c1, c2, c3, c4, c5⟩ := hT3.out
      have n0 := hN4.cell 0
      have n1 := hN4.cell 1
      have n2 := hN4.cell 2
      have v0 := hV4.cell 0
      have v1 := hV4.cell 1
      have v2 := hV4.cell 2
      have vf := hV4.free 2
      simp at n0 n1 n2 v0 v1 v2
      cases hQ : (q && decide (s < 4294967296))
      · obtain ⟨e0, e1, e2, e3⟩ := HX2.out hQ
        clear HX1 HX2
        subst e0 e1 e2 e3
        go_wp2_with fail
        go_meet
        case rel => exact ⟨by assumption, by assumption, by assumption, by assumption, by assumption, by assumption, by assumption, by assumption⟩
      · obtain ⟨e0, e1, e2, e3⟩ := HX1.out hQ
        clear HX1 HX2
        subst e0 e1 e2 e3
        have hw : IntKind.i64.wrap (s + 1) = s + 1 := by
          simp at hQ
          exact IntWalk.i64_in _ (by have := bs_.1; omega)
        go_wp2_with fail
        go_meet
        case rel => exact hT3.out.step' ((Below.refl _ _).setCell (by simp only; omega) _)
    case rest =>
      clear hT3 hN3 hV3 s1 HX1 HX2
      have hT4 := Lib.hid hcut
      clear hcut
      obtain ⟨_, _, c0, c1, c2, c3, c4, c5⟩ := hT4.out
      go_wp2_with fail
      refine (CH.out _).mono ?_; rintro e w3 ⟨rfl, b3⟩
      have hT5 := Lib.hid (hT4.out.step b3)
      clear c0 c1 c2 c3 c4 c5 hT4 b3
      obtain ⟨z1, hz1, hz2⟩ : ∃ z : Int, (p1 = true → z = -1) ∧ (p1 = false → z = 0) := by
        cases p1
        · exact ⟨0, by simp, by simp⟩
        · exact ⟨-1, by simp, by simp⟩
      go_upto_if 45 with (fail)
      go_cut [8] (fun v wx => v = .int .i64 z1 ∧ wx = w3)
      case first =>
        cases p1
        · have := hz2 rfl
          subst this
          go_wp2_with fail
          go_meet
          case rel => exact ⟨rfl, rfl⟩
        · have := hz1 rfl
          subst this
          go_wp2_with fail
          go_meet
          case rel => exact ⟨rfl, rfl⟩
      case rest =>
        obtain ⟨hs, hw⟩ := hcut
        subst hs hw
        obtain ⟨_, _, c0, c1, c2, c3, c4, c5⟩ := hT5.out
        go_wp2_with fail
        refine (CH2.out _).mono ?_; rintro e w5 ⟨rfl, b3⟩
        have hT6 := Lib.hid (hT5.out.step b3)
        clear c0 c1 c2 c3 c4 c5 hT5 b3
        go_upto_if 50 with (fail)
        go_cut [8] (fun v wx => v = .int .i64 cc ∧ wx = w5)
        case first =>
          have hz : z1 = if p1 = true then -1 else 0 := by
            cases p1
            · exact hz2 rfl
            · exact hz1 rfl
          subst hz
          clear hz1 hz2
          obtain ⟨rfl, rfl, rfl⟩ | ⟨rfl, rfl, rfl⟩ | ⟨rfl, rfl, rfl⟩ := h3
          · go_wp2_with fail
            go_meet
            case rel => exact ⟨rfl, rfl⟩
          · go_wp2_with fail
            go_meet
            case rel => exact ⟨rfl, rfl⟩
          · go_wp2_with fail
            go_meet
            case rel => exact ⟨rfl, rfl⟩
        case rest =>
          obtain ⟨hs, hw⟩ := hcut
          subst hs hw
          clear h3 CH CH2 CN hB hz1 hz2
          obtain ⟨j0, j1, j2, j3, j4, j5, j6, j7⟩ := hT6.out
          go_wp2_with fail
          have tc : (cc == cc) = true := by simp
          have d0 : Below n w wc.drew := j0.drew
          have d1 : n + 2 ≤ wc.drew.heap.size := j1
          have d2 : wc.drew.cell? ⟨n, 0, none⟩ = some (.int .i64 d) := j2
          have d3 : wc.drew.cell? ⟨n, 1, none⟩ = some (.int .i64 i) := j3
          have d4 : wc.drew.cell? ⟨n, 2, none⟩ = some (.int .i64 s) := j4
          have d5 : wc.drew.cell? ⟨n + 1, 0, none⟩ = some (.int .i64 d') := j5
          have d6 : wc.drew.cell? ⟨n + 1, 1, none⟩ = some (.int .i64 i') := j6
          have d7 : wc.drew.cell? ⟨n + 1, 2, none⟩ = some (.int .i64 s') := j7
          clear j0 j1 j2 j3 j4 j5 j6 j7
          go_region_held3 (fun W => Below n w W ∧ n + 2 ≤ W.heap.size ∧ W.cell? ⟨n, 0, none⟩ = some (.int .i64 d) ∧ W.cell? ⟨n, 1, none⟩ = some (.int .i64 i) ∧ W.cell? ⟨n, 2, none⟩ = some (.int .i64 s) ∧ W.cell? ⟨n + 1, 0, none⟩ = some (.int .i64 d') ∧ W.cell? ⟨n + 1, 1, none⟩ = some (.int .i64 i') ∧ W.cell? ⟨n + 1, 2, none⟩ = some (.int .i64 s')) (first | with_reducible assumption | exact ⟨by with_reducible assumption, by with_reducible assumption, by with_reducible assumption, by with_reducible assumption, by with_reducible assumption, by with_reducible assumption, by with_reducible assumption, by with_reducible assumption⟩) ((first
                | (go_at_call_of 20 (Value.int .i64 d); refine (two_keep CX1.out (w := w) (n := n) (d := d) (i := i) (s := s) (d' := d') (i' := i') (s' := s') ⟨by with_reducible assumption, by with_reducible assumption, by with_reducible assumption, by with_reducible assumption, by with_reducible assumption, by with_reducible assumption, by with_reducible assumption, by with_reducible assumption⟩).mono ?_; rintro e w9 ⟨rfl, j0, j1, j2, j3, j4, j5, j6, j7⟩)
                | (go_at_call_of 20 (Value.int .i64 i); refine (two_keep CX2.out (w := w) (n := n) (d := d) (i := i) (s := s) (d' := d') (i' := i') (s' := s') ⟨by with_reducible assumption, by with_reducible assumption, by with_reducible assumption, by with_reducible assumption, by with_reducible assumption, by with_reducible assumption, by with_reducible assumption, by with_reducible assumption⟩).mono ?_; rintro e w9 ⟨rfl, j0, j1, j2, j3, j4, j5, j6, j7⟩)
                | (go_at_call_of 20 (Value.int .i64 s); refine (two_keep CX3.out (w := w) (n := n) (d := d) (i := i) (s := s) (d' := d') (i' := i') (s' := s') ⟨by with_reducible assumption, by with_reducible assumption, by with_reducible assumption, by with_reducible assumption, by with_reducible assumption, by with_reducible assumption, by with_reducible assumption, by with_reducible assumption⟩).mono ?_; rintro e w9 ⟨rfl, j0, j1, j2, j3, j4, j5, j6, j7⟩)))
          refine (by assumption : ∀ (a : Act) (w : World), _ → _) _ _ ?_
          clear d0 d1 d2 d3 d4 d5 d6 d7
          go_wp2_with fail
          have tr : (r == r) = true := by simp
          have tu : (u == u) = true := by simp
          have d0 : Below n w w9.drew := j0.drew
          have d1 : n + 2 ≤ w9.drew.heap.size := j1
          have d2 : w9.drew.cell? ⟨n, 0, none⟩ = some (.int .i64 d) := j2
          have d3 : w9.drew.cell? ⟨n, 1, none⟩ = some (.int .i64 i) := j3
          have d4 : w9.drew.cell? ⟨n, 2, none⟩ = some (.int .i64 s) := j4
          have d5 : w9.drew.cell? ⟨n + 1, 0, none⟩ = some (.int .i64 d') := j5
          have d6 : w9.drew.cell? ⟨n + 1, 1, none⟩ = some (.int .i64 i') := j6
          have d7 : w9.drew.cell? ⟨n + 1, 2, none⟩ = some (.int .i64 s') := j7
          clear j0 j1 j2 j3 j4 j5 j6 j7
          go_region_held3 (fun W => Below n w W ∧ n + 2 ≤ W.heap.size ∧ W.cell? ⟨n, 0, none⟩ = some (.int .i64 d) ∧ W.cell? ⟨n, 1, none⟩ = some (.int .i64 i) ∧ W.cell? ⟨n, 2, none⟩ = some (.int .i64 s) ∧ W.cell? ⟨n + 1, 0, none⟩ = some (.int .i64 d') ∧ W.cell? ⟨n + 1, 1, none⟩ = some (.int .i64 i') ∧ W.cell? ⟨n + 1, 2, none⟩ = some (.int .i64 s')) (first | with_reducible assumption | exact ⟨by with_reducible assumption, by with_reducible assumption, by with_reducible assumption, by with_reducible assumption, by with_reducible assumption, by with_reducible assumption, by with_reducible assumption, by with_reducible assumption⟩) ((first
                | (go_at_call 21; refine (two_keep CD.out (w := w) (n := n) (d := d) (i := i) (s := s) (d' := d') (i' := i') (s' := s') ⟨by with_reducible assumption, by with_reducible assumption, by with_reducible assumption, by with_reducible assumption, by with_reducible assumption, by with_reducible assumption, by with_reducible assumption, by with_reducible assumption⟩).mono ?_; rintro e w9 ⟨rfl, j0, j1, j2, j3, j4, j5, j6, j7⟩)
                | (go_at_call 18; refine (two_keep CR.out (w := w) (n := n) (d := d) (i := i) (s := s) (d' := d') (i' := i') (s' := s') ⟨by with_reducible assumption, by with_reducible assumption, by with_reducible assumption, by with_reducible assumption, by with_reducible assumption, by with_reducible assumption, by with_reducible assumption, by with_reducible assumption⟩).mono ?_; rintro e w9 ⟨rfl, j0, j1, j2, j3, j4, j5, j6, j7⟩)
                | (go_at_call 22; refine (two_keep CA.out (w := w) (n := n) (d := d) (i := i) (s := s) (d' := d') (i' := i') (s' := s') ⟨by with_reducible assumption, by with_reducible assumption, by with_reducible assumption, by with_reducible assumption, by with_reducible assumption, by with_reducible assumption, by with_reducible assumption, by with_reducible assumption⟩).mono ?_; rintro e w9 ⟨rfl, j0, j1, j2, j3, j4, j5, j6, j7⟩)
                | (go_at_call 23; refine (two_keep CRA.out (w := w) (n := n) (d := d) (i := i) (s := s) (d' := d') (i' := i') (s' := s') ⟨by with_reducible assumption, by with_reducible assumption, by with_reducible assumption, by with_reducible assumption, by with_reducible assumption, by with_reducible assumption, by with_reducible assumption, by with_reducible assumption⟩).mono ?_; rintro e w9 ⟨rfl, j0, j1, j2, j3, j4, j5, j6, j7⟩)
                | (go_at_call 24; refine (two_keep CL.out (w := w) (n := n) (d := d) (i := i) (s := s) (d' := d') (i' := i') (s' := s') ⟨by with_reducible assumption, by with_reducible assumption, by with_reducible assumption, by with_reducible assumption, by with_reducible assumption, by with_reducible assumption, by with_reducible assumption, by with_reducible assumption⟩).mono ?_; rintro e w9 ⟨rfl, j0, j1, j2, j3, j4, j5, j6, j7⟩)
                | (go_at_call 25; refine (two_keep CRL.out (w := w) (n := n) (d := d) (i := i) (s := s) (d' := d') (i' := i') (s' := s') ⟨by with_reducible assumption, by with_reducible assumption, by with_reducible assumption, by with_reducible assumption, by with_reducible assumption, by with_reducible assumption, by with_reducible assumption, by with_reducible assumption⟩).mono ?_; rintro e w9 ⟨rfl, j0, j1, j2, j3, j4, j5, j6, j7⟩)
                | (go_at_call 26; refine (two_keep CC.out (w := w) (n := n) (d := d) (i := i) (s := s) (d' := d') (i' := i') (s' := s') ⟨by with_reducible assumption, by with_reducible assumption, by with_reducible assumption, by with_reducible assumption, by with_reducible assumption, by with_reducible assumption, by with_reducible assumption, by with_reducible assumption⟩).mono ?_; rintro e w9 ⟨rfl, j0, j1, j2, j3, j4, j5, j6, j7⟩)
                | (go_at_call 27; refine (two_keep CT.out (w := w) (n := n) (d := d) (i := i) (s := s) (d' := d') (i' := i') (s' := s') ⟨by with_reducible assumption, by with_reducible assumption, by with_reducible assumption, by with_reducible assumption, by with_reducible assumption, by with_reducible assumption, by with_reducible assumption, by with_reducible assumption⟩).mono ?_; rintro e w9 ⟨rfl, j0, j1, j2, j3, j4, j5, j6, j7⟩)
                | (go_at_call 28; refine (two_keep C9.out (w := w) (n := n) (d := d) (i := i) (s := s) (d' := d') (i' := i') (s' := s') ⟨by with_reducible assumption, by with_reducible assumption, by with_reducible assumption, by with_reducible assumption, by with_reducible assumption, by with_reducible assumption, by with_reducible assumption, by with_reducible assumption⟩).mono ?_; rintro e w9 ⟨rfl, j0, j1, j2, j3, j4, j5, j6, j7⟩)))
          refine (by assumption : ∀ (a : Act) (w : World), _ → _) _ _ ?_
          go_wp2
          go_ret
          exact ⟨rfl, hn ▸ j0⟩
end Go.Proofs.Ytjlmbdhjpjbneaa
