/- Layer 18 (seen): the walk of the law SeenNils. -/
import Derived.Test.YtailbppddnegoaaZ17
import Derived.Test.YtailbppddnegoaaO5
namespace Go.Proofs.Ytailbppddnegoaa
open Go.RowKit
set_option linter.unusedVariables false
set_option maxRecDepth 100000
attribute [local go_sem ↓] Go.wp_at_zero Go.wp_at_succ

theorem sP_nil : sP [] [] = [0, 0] := by
  have h : vput 0 = [0] := vput_small (x := 0) (by decide)
  unfold sP nP dsP
  simp [h]
theorem missL_nil (L : List Dt) : missL L [] [] = [] := rfl
theorem rd_two (W : World) (e : TypeId) : Rd (W.alloc (.cells #[.int .u8 0, .int .u8 0] e)) (W.alloc (.cells #[.int .u8 0, .int .u8 0] e)).heap.size 1 (some ⟨W.heap.size, 0, none⟩) 2 (bv [0, 0]) :=
  ⟨rfl, fun _ => ⟨_, _, rfl, by simp, fun j u hu => by
    rw [(Whole.new W e #[.int .u8 0, .int .u8 0]).cell, Nat.zero_add, ← Array.getElem?_toList]; exact hu⟩⟩
/-- What every world of the law has. -/
structure NI (w : World) (N : Nat) (d i q : Int) (s v b g : Nat) (A : Option Addr) (S M B : List Dt) (W : World) : Prop where
  set : SetIs W s v b g M B
  x : MsAt W A S
  box : C3 N d i q W
  bel : Below N w W
theorem NI.lo {w W : World} {N : Nat} {d i q : Int} {s v b g : Nat} {A : Option Addr} {S M B : List Dt} (h : NI w N d i q s v b g A S M B W) : N < W.heap.size := World.block_lt_of_cell? W _ h.box.1
theorem NI.up {w W W' : World} {N : Nat} {d i q : Int} {s v b g : Nat} {A : Option Addr} {S M B : List Dt} (h : NI w N d i q s v b g A S M B W) (hb : Below W.heap.size W W') : NI w N d i q s v b g A S M B W' :=
  ⟨h.set.up hb, h.x.up hb, h.box.up h.lo hb, h.bel.trans (below_of_le hb (Nat.le_of_lt h.lo))⟩
set_option maxHeartbeats 8000000 in
theorem seenNils_law (w : World) {vl vd : Value} (hl : IsRecs 3 w vl) (hd : IsDot vd) :
    Calls Try.prog 14 #[vl, vd] w fun e w' => e = .returned (.bool true) ∧ Below w.heap.size w w' := by
  obtain ⟨Al, cl, L, rfl, hlc, hcm, hrl, hokl⟩ := recs_list hl
  obtain ⟨d, i, q, rfl, hd1, hd2, hd3⟩ := hd
  have hmx : maxLen ≤ 9223372036854775807 := by decide
  have C9 := Lib.hid awake18_any
  have B0 := (Below.refl w.heap.size w).alloc (Nat.le_refl _) (.cells #[.int .i64 d, .int .i64 i, .int .i64 q] 27)
  have H0 := Lib.hid (And.intro (C3.new w d i q 27) B0)
  have CM := Lib.hid (made18_any (w.alloc (.cells #[.int .i64 d, .int .i64 i, .int .i64 q] 27)) Al cl L (MsAt.up hrl B0) (fun y hy => (hokl y hy).ok) (by omega))
  have CJ1 := Lib.hid (fun W q => ssjoin_nil1 W q)
  have CJ2 := Lib.hid (fun W s => ssjoin_nil2 W s)
  have CA := Lib.hid (fun W => ssadd_nil ((d, i), q) W)
  have CH := Lib.hid (fun W => sshas_nil ((d, i), q) W)
  have CB := Lib.hid (fun W => ssbase_any W none [] [] (SetAt.nil W))
  have CY := Lib.hid (fun W => ssbeyond_any W none [] [] (SetAt.nil W) (by decide))
  have CP := Lib.hid (fun (W : World) (bs q : Nat) (h : Wr W bs q none 0 []) (hb : bs ≤ W.heap.size) => ssput_any W bs q none 0 [] none [] [] h hb (by simp) (SetAt.nil W) (fun W' _ => SetAt.nil W') (by decide) (by decide))
  rw [sP_nil, List.nil_append] at CP
  have CW := Lib.hid (fun (W : World) (bs q : Nat) (A : Option Addr) (c : Nat) (h : Wr W bs q A c [0, 0]) => wbytes_any W bs q A c [0, 0] h (by decide))
  have CS := Lib.hid (fun (W : World) (A A' : Option Addr) (c c' : Nat) (h1 : Rd W W.heap.size 1 A 2 (bv [0, 0])) (h2 : Rd W W.heap.size 1 A' 2 (bv [0, 0])) => same_any [0, 0] A A' 2 2 c c' W.heap.size W (by decide) h1 h2 (Nat.le_refl _))
  have hs1 := smade_len L
  generalize smade L = S at *
  generalize L.length = nl at *
  have hsz0 : (w.alloc (.cells #[.int .i64 d, .int .i64 i, .int .i64 q] 27)).heap.size = w.heap.size + 1 := by simp
  have HZ0 := Lib.hid hsz0
  generalize hN : w.heap.size = N at *
  unfold dtV at CA CH
  unfold dotV
  simp only at CA CH
  clear hl hrl hokl hlc hcm hmx B0 hsz0
  go_enter Try.func14, Try.ntmps14
  go_wp2_with fail
  generalize (w.alloc (.cells #[.int .i64 d, .int .i64 i, .int .i64 q] 27)) = W0 at *
  refine CM.out.mono ?_; rintro e w1 ⟨s, v, b, g, M, B, A, c, rfl, hs, hv, ht1, b1⟩
  have hz0 := HZ0.out
  have H1 := Lib.hid (show NI w N d i q s v b g A S M B w1 from ⟨ht1.set, ht1.at_, H0.out.1.up (by omega) b1, H0.out.2.trans (below_of_le b1 (by omega))⟩)
  have HL1 := Lib.hid ht1.l
  clear ht1 b1 CM H0 HZ0 hz0
  have hlM := HL1.out.lenM
  have hlB := HL1.out.len
  have e1 := HL1.out.base
  have e2 := HL1.out.beyond
  have CX := Lib.hid (fun W (h : NI w N d i q s v b g A S M B W) => ssmissing_any W none (some ⟨s, 0, none⟩) [] [] [] M B S (SetAt.nil W) h.set.at_ SetL.nil HL1.out (by omega))
  have CZ := Lib.hid (fun W (h : NI w N d i q s v b g A S M B W) => rmissing18_any W none A 0 c [] S Rd.nil_ h.x Dw.nil HL1.out.dw (by decide) (by omega))
  rw [e1, e2] at CZ
  have hml : (missL [] M B).length ≤ 1000 := by
    have h1 := missM_len [] M
    have h2 := missB_len [] B
    unfold missL
    rw [List.length_append]
    omega
  have CE := Lib.hid (fun (W : World) (A A' : Option Addr) (c c' : Nat) (hr : MsAt W A (missL [] M B)) (hr' : MsAt W A' (missL [] M B)) => rsame16_any W W.heap.size W.heap.size A A' c c' _ _ hr hr' (Nat.le_refl _) (Nat.le_refl _) (by omega))
  simp only [decide_true] at CE
  have CV := Lib.hid (fun W (h : NI w N d i q s v b g A S M B W) => (missL_nil S) ▸ ssmissing_any W (some ⟨s, 0, none⟩) none M B S [] [] [] h.set.at_ (SetAt.nil W) HL1.out SetL.nil (by decide))
  have CI := Lib.hid (fun W (h : NI w N d i q s v b g A S M B W) => is18_all W s v b g A c S M B h.set HL1.out h.x (by omega))
  generalize (missL [] M B) = ML at *
  have hl0 : ([] : List Dt).length = 0 := rfl
  have hl2 : ([0, 0] : List UInt8).length = 2 := rfl
  rw [hl0] at CZ
  generalize S.length = sl at *
  clear e1 e2
  go_wp2_with fail
  refine (CJ1.out _ _).mono ?_; rintro e w2 ⟨rfl, b2⟩
  have H2 := Lib.hid (H1.out.up b2)
  clear b2 H1 CJ1
  go_wp2_with fail
  refine (CJ2.out _ _).mono ?_; rintro e w3 ⟨rfl, b3⟩
  have H3 := Lib.hid (H2.out.up b3)
  clear b3 H2 CJ2
  have hq1 := wr_new' w3 w3.heap.size (Nat.le_refl _)
  have hb3 : Below w3.heap.size w3 (w3.alloc (.cells #[.slice none 0 0] 80)) := (Below.refl _ _).alloc (Nat.le_refl _) _
  have HQ := Lib.hid (And.intro hq1 hb3)
  clear hq1 hb3
  go_wp2_with fail
  generalize hz3 : w3.heap.size = z3 at *
  generalize (w3.alloc (.cells #[.slice none 0 0] 80)) = W3 at *
  refine (CP.out _ z3 z3 HQ.out.1 (by have := HQ.out.2.size; omega)).mono ?_; rintro e w4 ⟨A4, c4, rfl, hw4, st4⟩
  have H4 := Lib.hid (And.intro (H3.out.up (show Below w3.heap.size w3 w4 from by
    rw [hz3]
    exact HQ.out.2.trans (st4.1.below (fun k hk e => by rcases e with e | e; (subst e; omega); cases e) (by have := HQ.out.2.size; omega)))) hw4)
  clear hw4 st4 HQ CP H3
  have k0 := H4.out.1.box.1
  have k1 := H4.out.1.box.2.1
  have k2 := H4.out.1.box.2.2
  go_wp2_with fail
  refine (CA.out _).mono ?_; rintro e w5 ⟨rfl, b5⟩
  have H5 := Lib.hid (And.intro (H4.out.1.up b5) (H4.out.2.below b5))
  clear b5 H4 CA k0 k1 k2
  have k0 := H5.out.1.box.1
  have k1 := H5.out.1.box.2.1
  have k2 := H5.out.1.box.2.2
  go_wp2_with fail
  refine (CH.out _).mono ?_; rintro e w6 ⟨rfl, b6⟩
  have H6 := Lib.hid (And.intro (H5.out.1.up b6) (H5.out.2.below b6))
  clear b6 H5 CH k0 k1 k2
  go_wp2_with fail
  refine (CB.out _).mono ?_; rintro e w7 ⟨A7, c7, rfl, o7, b7⟩
  have H7 := Lib.hid (And.intro (H6.out.1.up b7) (H6.out.2.below b7))
  clear b7 o7 H6 CB
  simp only [hl0]
  go_wp2_with fail
  refine (CY.out _).mono ?_; rintro e w8 ⟨A8, c8, rfl, o8, b8⟩
  have H8 := Lib.hid (And.intro (H7.out.1.up b8) (H7.out.2.below b8))
  clear b8 o8 H7 CY
  simp only [hl0]
  go_wp2_with fail
  refine (CX.out _ H8.out.1).mono ?_; rintro e w9 ⟨A9, c9, rfl, o9, b9⟩
  have H9 := Lib.hid (And.intro (H8.out.1.up b9) (And.intro (H8.out.2.below b9) (MsAt.own o9)))
  clear b9 o9 H8 CX
  go_wp2_with fail
  refine (CZ.out _ H9.out.1).mono ?_; rintro e wa ⟨Aa, ca, rfl, oa, ba⟩
  have HA := Lib.hid (And.intro (H9.out.1.up ba) (And.intro (H9.out.2.1.below ba) (And.intro (H9.out.2.2.up ba) (MsAt.own oa))))
  clear ba oa H9 CZ
  go_wp2_with fail
  refine (CE.out _ _ _ _ _ HA.out.2.2.1 HA.out.2.2.2).mono ?_; rintro e wb ⟨rfl, bb⟩
  have HB := Lib.hid (And.intro (HA.out.1.up bb) (HA.out.2.1.below bb))
  clear bb HA CE
  go_wp2_with fail
  refine (CV.out _ HB.out.1).mono ?_; rintro e wc ⟨Ac, cc, rfl, oc, bc⟩
  have HC := Lib.hid (And.intro (HB.out.1.up bc) (HB.out.2.below bc))
  clear bc oc HB CV
  simp only [hl0]
  go_wp2_with fail
  refine (CW.out _ _ _ _ _ HC.out.2).mono ?_; rintro e wd ⟨Ad, cd, rfl, od, bd⟩
  have HD := Lib.hid (And.intro (HC.out.1.up bd) od.rd)
  have HT := Lib.hid (rd_two wd 5)
  have hbd : Below wd.heap.size wd (wd.alloc (.cells #[.int .u8 0, .int .u8 0] 5)) := (Below.refl _ _).alloc (Nat.le_refl _) _
  have HE := Lib.hid (And.intro (HD.out.1.up hbd) ((HD.out.2.below hbd).more hbd.size))
  clear bd od HC CW HD hbd
  simp only [hl2] at HE
  simp only [hl2]
  go_wp2_with fail
  generalize (wd.alloc (.cells #[.int .u8 0, .int .u8 0] 5)) = We at *
  refine (CS.out _ _ _ _ _ HE.out.2 HT.out).mono ?_; rintro e wf ⟨rfl, bf⟩
  have HF := Lib.hid (HE.out.1.up bf)
  clear bf HE HT CS
  go_wp2_with fail
  refine (CI.out _ HF.out).mono ?_; rintro e wg ⟨rfl, bg⟩
  have HG := Lib.hid (HF.out.up bg)
  clear bg HF CI
  go_wp2_with fail
  refine (C9.out _).mono ?_; rintro e wh ⟨rfl, bh⟩
  have HH := Lib.hid (HG.out.up bh)
  clear bh HG
  go_wp2
  go_ret
  exact ⟨rfl, HH.out.bel⟩
end Go.Proofs.Ytailbppddnegoaa
