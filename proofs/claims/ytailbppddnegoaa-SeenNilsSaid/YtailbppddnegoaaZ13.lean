/- Layer 18 (seen): the walk of the law SeenJoins. -/
import Derived.Test.YtailbppddnegoaaZ12
import Derived.Test.YtailbppddnegoaaO8
namespace Go.Proofs.Ytailbppddnegoaa
open Go.RowKit
set_option linter.unusedVariables false
set_option maxRecDepth 100000
attribute [local go_sem ↓] Go.wp_at_zero Go.wp_at_succ

theorem smade_len (l : List Dt) : (smade l).length ≤ 60 := by
  have h1 := foldl_rAdd_len (l.take 60) [] Dw.nil
  have h2 := List.length_take_le 60 l
  unfold smade
  simp only [List.length_nil] at h1
  omega
/-- Two sets and the document's dots beside them. -/
structure GJ (w : World) (N : Nat) (s v b g so vo bo go : Nat) (A A' : Option Addr) (S1 S2 MO BO M B : List Dt) (W : World) : Prop where
  set : SetIs W s v b g M B
  oth : SetIs W so vo bo go MO BO
  x : MsAt W A S1
  y : MsAt W A' S2
  bel : Below N w W
  lo : N ≤ W.heap.size
theorem GJ.up {w W W' : World} {N s v b g so vo bo go : Nat} {A A' : Option Addr} {S1 S2 MO BO M B : List Dt} (h : GJ w N s v b g so vo bo go A A' S1 S2 MO BO M B W) (hb : Below W.heap.size W W') : GJ w N s v b g so vo bo go A A' S1 S2 MO BO M B W' :=
  ⟨h.set.up hb, h.oth.up hb, h.x.up hb, h.y.up hb, h.bel.trans (below_of_le hb h.lo), Nat.le_trans h.lo hb.size⟩
theorem GJ.to {w W W' : World} {N s v b g so vo bo go : Nat} {A A' : Option Addr} {S1 S2 MO BO M B M' B' : List Dt} (h : GJ w N s v b g so vo bo go A A' S1 S2 MO BO M B W) (hs : SetIs W' s v b g M' B') (hc : Ch (fun k => k = b ∨ k = g) W W')
    (hb : N ≤ b) (hg : N ≤ g) (ap : ∀ k, k = so ∨ k = vo ∨ k = bo ∨ k = go → ¬ (k = b ∨ k = g)) (fx : ∀ k, bl A = some k → k ≠ b ∧ k ≠ g) (fy : ∀ k, bl A' = some k → k ≠ b ∧ k ≠ g) : GJ w N s v b g so vo bo go A A' S1 S2 MO BO M' B' W' :=
  ⟨hs, h.oth.ch hc (ap so (by simp)) (ap vo (by simp)) (ap bo (by simp)) (ap go (by simp)), h.x.ch hc (fun k hk e => by have := fx k hk; rcases e with e | e <;> omega), h.y.ch hc (fun k hk e => by have := fy k hk; rcases e with e | e <;> omega),
    h.bel.trans (ch_below hc hb hg h.lo), Nat.le_trans h.lo hc.size⟩
/-- 'append(append([]Dot of none, xs...), ys...)'. -/
theorem app2d (u : World) (D : Nat) (A3 A4 : Option Addr) (X Y : List Dt) (c3 c4 : Nat) (hD : u.heap.size = D) (rX : Ds u D A3 X) (rY : Ds u D A4 Y) (hk : X.length ≤ 1000000) (hm : Y.length ≤ 1000000) :
    ∃ A6 c6 w6 A8 c8 w8, (Builtin.append_ #[43, 43] 43 #[.slice (some ⟨u.heap.size, 0, none⟩) 0 0, .slice A3 X.length c3]).run Try.prog (u.alloc (.cells #[] 27)) = .ok (.slice A6 X.length c6) w6 ∧
      (Builtin.append_ #[43, 43] 43 #[.slice A6 X.length c6, .slice A4 Y.length c4]).run Try.prog w6 = .ok (.slice A8 (X.length + Y.length) c8) w8 ∧
      MsAt w8 A8 (X ++ Y) ∧ Below D u w8 := by
  subst hD
  have b0 := (Below.refl u.heap.size u).alloc (Nat.le_refl _) (.cells #[] 27)
  obtain ⟨A6, c6, w6, q1, o6, g6, n6⟩ := app3 (u.alloc (.cells #[] 27)) u.heap.size _ 0 0 [] (own_e3 u 27 u.heap.size (Nat.le_refl _)) u.heap.size A3 X.length c3 (dts X) (Rd.below rX b0) (dts_one X) (by omega) b0.size
  rw [Nat.zero_add] at q1 o6
  rw [List.nil_append] at o6
  have b6 := b0.trans (grown_below g6 b0.size (own_e3 u 27 u.heap.size (Nat.le_refl _)).bl_ge)
  obtain ⟨A8, c8, w8, q2, o8, g8, n8⟩ := app3 w6 u.heap.size A6 X.length c6 (dts X) o6 u.heap.size A4 Y.length c4 (dts Y) (Rd.below rY b6) (dts_one Y) (by omega) b6.size
  refine ⟨A6, c6, w6, A8, c8, w8, q1, q2, ?_, b6.trans (grown_below g8 b6.size o6.bl_ge)⟩
  have e : dts X ++ dts Y = dts (X ++ Y) := by simp [dts]
  rw [e, ← List.length_append] at o8
  exact MsAt.own o8
set_option maxHeartbeats 4000000 in
theorem seenJoins_law (w : World) {vl vm : Value} (hl : IsRecs 3 w vl) (hm : IsRecs 3 w vm) :
    Calls Try.prog 10 #[vl, vm] w fun e w' => e = .returned (.bool true) ∧ Below w.heap.size w w' := by
  obtain ⟨Al, cl, L, rfl, hlc, hcm, hrl, hokl⟩ := recs_list hl
  obtain ⟨Am, cm, L', rfl, hmc, hcm', hrm, hokm⟩ := recs_list hm
  have hmx : maxLen ≤ 9223372036854775807 := by decide
  have C9 := Lib.hid awake18_any
  have CM := Lib.hid (made18_any w Al cl L hrl (fun y hy => (hokl y hy).ok) (by omega))
  have CM' := Lib.hid (fun W (h : MsAt W Am L') => made18_any W Am cm L' h (fun y hy => (hokm y hy).ok) (by omega))
  have HM := Lib.hid (show MsAt w Am L' from hrm)
  have hs1 := smade_len L
  have hs2 := smade_len L'
  generalize smade L = S1 at *
  generalize smade L' = S2 at *
  generalize L.length = nl at *
  generalize L'.length = nm at *
  generalize hN : w.heap.size = N at *
  clear hl hm hrl hrm hokl hokm hlc hcm hmc hcm' hmx
  go_enter Try.func10, Try.ntmps10
  go_wp2_with fail
  refine CM.out.mono ?_; rintro e w1 ⟨s, v, b, g, M, B, A, c, rfl, hs, hv, ht1, b1⟩
  rw [hN] at hs hv ht1 b1
  have H1 := Lib.hid (And.intro ht1 b1)
  clear ht1 b1 CM
  go_wp2_with fail
  refine (CM'.out _ (HM.out.up (by rw [hN]; exact H1.out.2))).mono ?_; rintro e w2 ⟨so, vo, bo, go, MO, BO, A', c', rfl, hso, hvo, ht2, b2⟩
  have hb := H1.out.1.set.ltb
  have hg := H1.out.1.set.ltg
  have hlb := H1.out.1.lb
  have hlg := H1.out.1.lg
  have hbo := ht2.lb
  have hgo := ht2.lg
  have hN1 : N ≤ w1.heap.size := by omega
  have hap := Lib.hid (show ∀ k, k = so ∨ k = vo ∨ k = bo ∨ k = go → ¬ (k = b ∨ k = g) from fun k hk => by omega)
  have hfx := Lib.hid (show ∀ k, bl A = some k → k ≠ b ∧ k ≠ g from fun k hk => (H1.out.1.far k hk).2)
  have hfy := Lib.hid (show ∀ k, bl A' = some k → (k ≠ b ∧ k ≠ g) ∧ k ≠ bo ∧ k ≠ go from fun k hk => by have := ht2.far k hk; omega)
  have HL1 := Lib.hid H1.out.1.l
  have HL2 := Lib.hid ht2.l
  have H2 := Lib.hid (show GJ w N s v b g so vo bo go A A' S1 S2 MO BO M B w2 from ⟨H1.out.1.set.up b2, ht2.set, H1.out.1.at_.up b2, ht2.at_, H1.out.2.trans (below_of_le b2 hN1), Nat.le_trans hN1 b2.size⟩)
  clear ht2 b2 H1 CM' hb hg
  have e1 := HL2.out.base
  have e2 := HL2.out.beyond
  have CX := Lib.hid (fun W (h : SetIs W s v b g M B) (h2 : SetIs W so vo bo go MO BO) => ssmissing_any W _ _ M B S1 MO BO S2 h.at_ h2.at_ HL1.out HL2.out (by omega))
  have CY := Lib.hid (fun W (h : MsAt W A S1) (h2 : MsAt W A' S2) => rmissing18_any W A A' c c' S1 S2 h h2 HL1.out.dw HL2.out.dw (by omega) (by omega))
  rw [e1, e2] at CY
  have hml : (missL S1 MO BO).length ≤ 70000000 := by
    have h1 := missM_len S1 MO
    have h2 := missB_len S1 BO
    have h3 := HL2.out.sw.vw.len
    have h4 := HL2.out.len
    unfold missL
    rw [List.length_append]
    omega
  have CS := Lib.hid (fun (W : World) (A A' : Option Addr) (c c' : Nat) (hr : MsAt W A (missL S1 MO BO)) (hr' : MsAt W A' (missL S1 MO BO)) => rsame16_any W W.heap.size W.heap.size A A' c c' _ _ hr hr' (Nat.le_refl _) (Nat.le_refl _) (by omega))
  simp only [decide_true] at CS
  have CJ := Lib.hid (fun W (h : SetIs W s v b g M B) (h2 : SetIs W so vo bo go MO BO) => ssjoin_in W s v b g so vo bo go M B S1 MO BO S2 h h2 HL1.out HL2.out hap.out (by omega) (by omega))
  have hdl : (dsort (S1 ++ S2)).length ≤ 120 := by
    have := dsort_len (S1 ++ S2)
    rw [List.length_append] at this
    omega
  have CZ := Lib.hid (fun (W : World) (A : Option Addr) (c : Nat) (h : MsAt W A (S1 ++ S2)) => rsort_any W W.heap.size A c (S1 ++ S2) h (Nat.le_refl _) (by rw [List.length_append]; omega))
  have CI := Lib.hid (fun W lo A c M B (h : Two W lo s v b g A (dsort (S1 ++ S2)) M B) => is18_any W lo s v b g A c _ M B h (by omega))
  have CI2 := Lib.hid (fun W (h : Two W 0 so vo bo go A' S2 MO BO) => is18_any W 0 so vo bo go A' c' S2 MO BO h (by omega))
  have CW := Lib.hid (fun W M' B' (hL : SetL M' B' (dsort (S1 ++ S2))) (h : SetIs W s v b g M' B') (h2 : SetIs W so vo bo go MO BO) => (miss_joined hL HL2.out) ▸ ssmissing_any W _ _ M' B' _ MO BO S2 h.at_ h2.at_ hL HL2.out (by omega))
  have CP := Lib.hid (fun (u : World) (rX : MsAt u A S1) (rY : MsAt u A' S2) => app2d u u.heap.size A A' S1 S2 c c' rfl rX rY (by omega) (by omega))
  rw [List.length_append] at CZ
  generalize S1.length = l1 at *
  generalize S2.length = l2 at *
  clear e1 e2
  go_wp2_with fail
  refine (CX.out _ H2.out.set H2.out.oth).mono ?_; rintro e w3 ⟨A3, c3, rfl, o3, b3⟩
  have H3 := Lib.hid (And.intro (H2.out.up b3) (MsAt.own o3))
  clear o3 b3 H2 CX
  go_wp2_with fail
  refine (CY.out _ H3.out.1.x H3.out.1.y).mono ?_; rintro e w4 ⟨A4, c4, rfl, o4, b4⟩
  have H4 := Lib.hid (And.intro (H3.out.1.up b4) (And.intro (H3.out.2.up b4) (MsAt.own o4)))
  clear o4 b4 H3 CY
  go_wp2_with fail
  refine (CS.out _ _ _ _ _ H4.out.2.1 H4.out.2.2).mono ?_; rintro e w5 ⟨rfl, b5⟩
  have H5 := Lib.hid (H4.out.1.up b5)
  clear b5 H4 CS
  go_wp2_with fail
  refine (CJ.out _ H5.out.set H5.out.oth).mono ?_; rintro e w6 ⟨rfl, M6, B6, hl6, hs6, hc6⟩
  have H6 := Lib.hid (And.intro (H5.out.to hs6 hc6 hlb hlg hap.out hfx.out (fun k hk => (hfy.out k hk).1)) hl6)
  clear hl6 hs6 hc6 H5 CJ
  obtain ⟨A7, c7, w7, A8, c8, w8, q7, q8, o8, b8⟩ := CP.out w6 H6.out.1.x H6.out.1.y
  have Q7 := Lib.hid q7
  have Q8 := Lib.hid q8
  have H8 := Lib.hid (And.intro (H6.out.1.up b8) o8)
  clear q7 q8 o8 b8
  go_wp2_with (at_builtin; first | refine wpList_want (by rfl) (fun K hK => wp_append_runs _ _ _ _ _ rfl _ _ rfl rfl _ _ Q7.out (hK _ _ ?_)) | refine wpList_want (by rfl) (fun K hK => wp_append_runs _ _ _ _ _ rfl _ _ rfl rfl _ _ Q8.out (hK _ _ ?_)))
  refine (CZ.out _ _ _ H8.out.2).mono ?_; rintro e w9 ⟨A9, c9, rfl, o9, b9⟩
  have hlt9 := H8.out.1.set.ltb
  have hlg9 := H8.out.1.set.ltg
  have H9 := Lib.hid (And.intro (H8.out.1.up b9) (show Two w9 0 s v b g A9 (dsort (S1 ++ S2)) M6 B6 from ⟨(H8.out.1.up b9).set, H6.out.2, MsAt.own o9, fun k hk => by have := o9.bl_lo k hk; omega, by omega, by omega⟩))
  clear o9 b9 H8 CZ Q7 Q8 hlt9 hlg9
  go_wp2_with fail
  refine (CI.out _ _ _ _ _ _ H9.out.2).mono ?_; rintro e wa ⟨rfl, ba⟩
  have HA := Lib.hid (H9.out.1.up ba)
  clear ba H9 CI
  go_wp2_with fail
  refine (CI2.out _ ⟨HA.out.oth, HL2.out, HA.out.y, fun k hk => ⟨by omega, (hfy.out k hk).2⟩, by omega, by omega⟩).mono ?_; rintro e wb ⟨rfl, bb⟩
  have HB := Lib.hid (HA.out.up bb)
  clear bb HA CI2
  go_wp2_with fail
  refine (CW.out _ _ _ H6.out.2 HB.out.set HB.out.oth).mono ?_; rintro e wc ⟨Ac, cc, rfl, oc, bc⟩
  have HC := Lib.hid (HB.out.up bc)
  have hl0 : ([] : List Dt).length = 0 := rfl
  simp only [hl0]
  clear oc bc HB CW hl0
  go_wp2_with fail
  refine (C9.out _).mono ?_; rintro e wd ⟨rfl, bd⟩
  have HD := Lib.hid (HC.out.up bd)
  clear bd HC
  go_wp2
  go_ret
  exact ⟨rfl, HD.out.bel⟩
end Go.Proofs.Ytailbppddnegoaa
